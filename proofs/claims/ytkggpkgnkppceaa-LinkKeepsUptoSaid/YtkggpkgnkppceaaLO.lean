import Derived.Test.YtkggpkgnkppceaaLP
import Derived.Test.YtkggpkgnkppceaaEngI
namespace Go.Proofs.Ytkggpkgnkppceaa.LK
open Go.Eng
set_option maxRecDepth 100000
def h3o : Hints := gOf [(13, [6], [(0, 2), (1, 2), (2, 1), (3, 2), (4, 1), (5, 0), (6, 0), (7, 0), (8, 0)])]
def KO : List Sc := [.int .i64, .int .i64, .int .i64, .int .i64, .int .u8, .int .u8, .str]
theorem Ord.none (sent : Nat) : Ord sent [] := ⟨[], rfl, List.Pairwise.nil, fun _ h => by cases h⟩
@[reducible] def F0 (l : A) (sent i : Int) : Frm := [(0, .a l), (3, .a (.ptr 0 0)), (5, .a (.int .i64 sent)), (6, .a (.int .i64 i))]
@[reducible] def F1 (sent : Int) (s : ByteArray) (i : Int) : Frm := [(3, .a (.ptr 0 0)), (5, .a (.int .i64 sent)), (8, .a (.str s)), (9, .a (.int .i64 i))]
/-- The heap between two steps: no flight was ever sent, or a row of flights in order. -/
def InH (sent : Nat) (H : Hp) : Prop :=
  (H = [.cells [.int .i64 1024, .nils] 57 false]) ∨
  ∃ (L y : List Fl) (cs : List A) (cap : Nat) (mk : Bool), cs = fls (L ++ y) ∧ cap = L.length + y.length ∧ L.length ≤ 1024 ∧ L.length ≤ sent ∧ Ord sent L ∧ H = [.cells [.int .i64 1024, .slc 1 0 L.length cap] 57 false, .cells cs 61 mk]
def Inv0 (l : A) (len : Nat) (m : Nat) (F : Frm) (H : Hp) : Prop :=
  ∃ (i sent : Nat), i ≤ len ∧ m = len - i ∧ sent ≤ i ∧ F = F0 l sent i ∧ InH sent H
theorem wrapi {i : Nat} (h : i < 1048576) : IntKind.i64.wrap (↑i + 1) = ((i + 1 : Nat) : Int) := by
  rw [i64w (by omega) (by omega)]; rfl
theorem u8_of {z : Int} (h : IntKind.u8.min ≤ z ∧ z ≤ IntKind.u8.max) : ∃ f : UInt8, z = (f.toNat : Int) := by
  have h1 : (0 : Int) ≤ z ∧ z ≤ 255 := h
  refine ⟨UInt8.ofNat z.toNat, ?_⟩
  rw [UInt8.toNat_ofNat']
  omega
def Inv1 (ks : List Nat) (sent n cap : Nat) (cs : List A) (mk : Bool) (m : Nat) (F : Frm) (H : Hp) : Prop :=
  ∃ (i : Nat) (s : ByteArray), i ≤ n ∧ m = n - i ∧ (∀ j, i = j + 1 → ∀ k, ks[j]? = some k → s = ⟨(num k).toArray⟩) ∧ F = F1 sent s i ∧ H = [.cells [.int .i64 1024, .slc 1 0 n cap] 57 false, .cells cs 61 mk]
section
variable {ro : Addr → A → Prop}
set_option maxHeartbeats 4000000 in
theorem order (W : World) (p : Addr) (len cap : Nat) (G : Nat → List A) (hG : IsSl W 7 KO (.rslc p len cap) len cap G) (hlen : len < 1048576) :
    Go.Eng.Fn Try.prog (roOf W) 3 [.a (.rslc p len cap)] [] (fun v _ => v = .a (.bool true)) := by
  obtain ⟨z7, hz7⟩ : ∃ z : List A, z = [.int .i64 0, .int .i64 0, .int .i64 0, .int .i64 0, .int .u8 0, .int .u8 0, .str { data := #[] }] := ⟨_, rfl⟩
  have hzp : Pl z7 := by rw [hz7]; exact ⟨fun _ => rfl, fun _ => rfl⟩
  have hzl : z7.length = 7 := by rw [hz7]; rfl
  refine Go.Eng.Fn.of_code h3o Try.func3 rfl (Nat.le_of_ble_eq_true rfl) ?_
  conv => whnf
  refine Go.Eng.Fn.frame [] (by rfl) (by exact trivial) (by rfl) (works7 ?_)
  conv => whnf
  refine Go.Eng.Fn.frame [] (by rfl) (by exact trivial) (by rfl) (new8 1024 (by decide) (by decide) ?_)
  conv => whnf
  refine loopx_of (Inv0 (.rslc p len cap) len) len ?_ ?_
  · refine Into.weak [0] (F0 (.rslc p len cap) 0 0) [.cells [.int .i64 1024, .nils] 57 false] ⟨0, 0, Nat.zero_le _, rfl, Nat.le_refl _, rfl, .inl rfl⟩ ⟨rfl, rfl, rfl, rfl, trivial⟩ ⟨rfl, trivial⟩ rfl
  · rintro m F H ⟨i, sent, hi, rfl, hsi, rfl, hH⟩
    rcases hH with rfl | ⟨L, y, cs, cap', mk, hcs, hcap, hL, hLs, hO, rfl⟩
    · conv => whnf
      refine condm_of (fun h => ?_) (fun h => ?_)
      · have hil : i < len := by have := of_decide_eq_true h; omega
        obtain ⟨hf, hro⟩ := hG.get hil
        unfold KO at hf
        obtain ⟨who, r0, e0, b0, f0⟩ := Fits.int hf
        obtain ⟨kd, r1, rfl, b1, f1⟩ := Fits.int f0
        obtain ⟨I, r2, rfl, b2, f2⟩ := Fits.int f1
        obtain ⟨J, r3, rfl, b3, f3⟩ := Fits.int f2
        obtain ⟨fr, r4, rfl, b4, f4⟩ := Fits.int f3
        obtain ⟨to, r5, rfl, b5, f5⟩ := Fits.int f4
        obtain ⟨s, r6, rfl, b6, f6⟩ := Fits.str f5
        obtain rfl := Fits.nil f6
        obtain ⟨st, hst⟩ : ∃ st : List A, st = G i := ⟨_, rfl⟩
        rw [← hst] at hro
        rw [e0] at hst
        obtain ⟨fr, rfl⟩ := u8_of b4
        obtain ⟨to, rfl⟩ := u8_of b5
        have hsl : st.length = 7 := by rw [hst]; rfl
        have hsp : Pl st := by rw [hst]; exact ⟨fun _ => rfl, fun _ => rfl⟩
        have g1 : st[1]? = some (.int .i64 kd) := by rw [hst]; rfl
        have g2 : st[2]? = some (.int .i64 I) := by rw [hst]; rfl
        have g4 : st[4]? = some (.int .u8 (fr.toNat : Int)) := by rw [hst]; rfl
        have g5 : st[5]? = some (.int .u8 (to.toNat : Int)) := by rw [hst]; rfl
        have ld : ∀ j y, st[j]? = some y → roOf W ((p.add (i * 7)).add j) y := fun j y h => by rw [addr_add_add]; exact hro j y h
        have hw := wrapi (i := i) (by omega)
        have hw' := wrapi (i := sent) (by omega)
        clear hro hst e0 b0 b1 b2 b3 b4 b5 b6 f0 f1 f2 f3 f4 f5 f6 hf hG h
        conv => whnf
        repeat' (first
          | rw [← hz7]
          | ((with_reducible refine regx_of ?_ ?_); (· decide +kernel); conv => whnf)
          | ((with_reducible refine growx_pre ?_ ?_); (· exact ⟨_, rfl⟩); conv => whnf)
          | ((with_reducible refine needm_of ?_ ?_); (· first | assumption | exact decide_eq_true (by omega) | decide +kernel | (refine decide_eq_true ?_; simp (disch := omega) only [i64w]; omega)); conv => whnf)
          | ((with_reducible refine condm_pos ?_ ?_); (· assumption); conv => whnf)
          | ((with_reducible refine condm_neg ?_ ?_); (· assumption); conv => whnf)
          | ((with_reducible refine forceL_fv (by assumption) ?_); conv => whnf)
          | ((with_reducible refine forceL_rfv (by assumption) ?_); conv => whnf)
          | ((with_reducible refine forceNm_of ?_); conv => whnf)
          | ((with_reducible refine needm_of (fv_lenL (by assumption) (by assumption)) ?_); conv => whnf)
          | ((with_reducible refine optm_var (fv_strL (by assumption) (by assumption)) (fun s hs => ?_)); conv => whnf)
          | ((with_reducible refine forceA_of ?_); conv => whnf)
          | ((with_reducible refine forceL_pl (by assumption) ?_); conv => whnf)
          | ((with_reducible refine forceL_rpl (by assumption) ?_); conv => whnf)
          | (refine ⟨st, hsl, ld, ?_⟩; conv => whnf)
          | ((with_reducible refine needm_of ?_ ?_); (· first | (rw [hsl, hzl]; rfl) | (rw [hsl]; rfl) | (rw [hzl]; rfl)); conv => whnf)
          | ((with_reducible refine forceL_to (whole_of ?_) ?_); (· rw [hsl]; rfl); conv => whnf)
          | ((with_reducible refine forceL_to (store_all ?_) ?_); (· rw [hsl, hzl]); conv => whnf)
          | ((with_reducible refine optm_of g1 ?_); conv => whnf)
          | ((with_reducible refine optm_of g2 ?_); conv => whnf)
          | ((with_reducible refine optm_of g4 ?_); conv => whnf)
          | ((with_reducible refine optm_of g5 ?_); conv => whnf)
          | ((with_reducible refine condm_of (fun h => ?_) (fun h => ?_)) <;> (conv => whnf))
          | fail)
        · refine Go.Eng.Fn.frame [] (by rfl) (by exact trivial) (by rfl) (number10 sent (fun r hr => ?_))
          conv => whnf
          repeat' (first
            | rw [← hz7]
            | ((with_reducible refine regx_of ?_ ?_); (· decide +kernel); conv => whnf)
            | ((with_reducible refine growx_pre ?_ ?_); (· exact ⟨_, rfl⟩); conv => whnf)
            | ((with_reducible refine needm_of ?_ ?_); (· first | assumption | exact decide_eq_true (by omega) | decide +kernel | (refine decide_eq_true ?_; simp (disch := omega) only [i64w]; omega)); conv => whnf)
            | ((with_reducible refine condm_pos ?_ ?_); (· assumption); conv => whnf)
            | ((with_reducible refine condm_neg ?_ ?_); (· assumption); conv => whnf)
            | ((with_reducible refine forceL_fv (by assumption) ?_); conv => whnf)
            | ((with_reducible refine forceL_rfv (by assumption) ?_); conv => whnf)
            | ((with_reducible refine forceNm_of ?_); conv => whnf)
            | ((with_reducible refine needm_of (fv_lenL (by assumption) (by assumption)) ?_); conv => whnf)
            | ((with_reducible refine optm_var (fv_strL (by assumption) (by assumption)) (fun s hs => ?_)); conv => whnf)
            | ((with_reducible refine forceA_of ?_); conv => whnf)
            | ((with_reducible refine forceL_pl (by assumption) ?_); conv => whnf)
            | ((with_reducible refine forceL_rpl (by assumption) ?_); conv => whnf)
            | (refine ⟨st, hsl, ld, ?_⟩; conv => whnf)
            | ((with_reducible refine needm_of ?_ ?_); (· first | (rw [hsl, hzl]; rfl) | (rw [hsl]; rfl) | (rw [hzl]; rfl)); conv => whnf)
            | ((with_reducible refine forceL_to (whole_of ?_) ?_); (· rw [hsl]; rfl); conv => whnf)
            | ((with_reducible refine forceL_to (store_all ?_) ?_); (· rw [hsl, hzl]); conv => whnf)
            | ((with_reducible refine optm_of g1 ?_); conv => whnf)
            | ((with_reducible refine optm_of g2 ?_); conv => whnf)
            | ((with_reducible refine optm_of g4 ?_); conv => whnf)
            | ((with_reducible refine optm_of g5 ?_); conv => whnf)
            | fail)
          refine Go.Eng.Fn.frame [0] (by rfl) (by exact ⟨rfl, trivial⟩) (by rfl) (send9n 1024 (by decide) fr to ⟨r.toArray⟩ (fun h9 => ?_) (fun h9 y cs cap' mk hcs hcap => ?_))
          ·
            conv => whnf
            repeat' (first
              | rw [← hz7]
              | ((with_reducible refine regx_of ?_ ?_); (· decide +kernel); conv => whnf)
              | ((with_reducible refine growx_pre ?_ ?_); (· exact ⟨_, rfl⟩); conv => whnf)
              | ((with_reducible refine needm_of ?_ ?_); (· first | assumption | exact decide_eq_true (by omega) | decide +kernel | (refine decide_eq_true ?_; simp (disch := omega) only [i64w]; omega)); conv => whnf)
              | ((with_reducible refine condm_pos ?_ ?_); (· assumption); conv => whnf)
              | ((with_reducible refine condm_neg ?_ ?_); (· assumption); conv => whnf)
              | ((with_reducible refine forceL_fv (by assumption) ?_); conv => whnf)
              | ((with_reducible refine forceL_rfv (by assumption) ?_); conv => whnf)
              | ((with_reducible refine forceNm_of ?_); conv => whnf)
              | ((with_reducible refine needm_of (fv_lenL (by assumption) (by assumption)) ?_); conv => whnf)
              | ((with_reducible refine optm_var (fv_strL (by assumption) (by assumption)) (fun s hs => ?_)); conv => whnf)
              | ((with_reducible refine forceA_of ?_); conv => whnf)
              | ((with_reducible refine forceL_pl (by assumption) ?_); conv => whnf)
              | ((with_reducible refine forceL_rpl (by assumption) ?_); conv => whnf)
              | (refine ⟨st, hsl, ld, ?_⟩; conv => whnf)
              | ((with_reducible refine needm_of ?_ ?_); (· first | (rw [hsl, hzl]; rfl) | (rw [hsl]; rfl) | (rw [hzl]; rfl)); conv => whnf)
              | ((with_reducible refine forceL_to (whole_of ?_) ?_); (· rw [hsl]; rfl); conv => whnf)
              | ((with_reducible refine forceL_to (store_all ?_) ?_); (· rw [hsl, hzl]); conv => whnf)
              | ((with_reducible refine optm_of g1 ?_); conv => whnf)
              | ((with_reducible refine optm_of g2 ?_); conv => whnf)
              | ((with_reducible refine optm_of g4 ?_); conv => whnf)
              | ((with_reducible refine optm_of g5 ?_); conv => whnf)
              | fail)
            refine ⟨len - (i + 1), by omega, Into.weak [0] (F0 (.rslc p len cap) sent _) [.cells [.int .i64 1024, .nils] 57 false] ?_ ⟨rfl, rfl, rfl, rfl, trivial⟩ ⟨rfl, trivial⟩ rfl⟩
            exact ⟨i + 1, sent, by omega, rfl, by omega, congrArg (F0 _ _) hw, .inl rfl⟩
          · have hp := Pl.fls hcs
            conv => whnf
            repeat' (first
              | rw [← hz7]
              | ((with_reducible refine regx_of ?_ ?_); (· decide +kernel); conv => whnf)
              | ((with_reducible refine growx_pre ?_ ?_); (· exact ⟨_, rfl⟩); conv => whnf)
              | ((with_reducible refine needm_of ?_ ?_); (· first | assumption | exact decide_eq_true (by omega) | decide +kernel | (refine decide_eq_true ?_; simp (disch := omega) only [i64w]; omega)); conv => whnf)
              | ((with_reducible refine condm_pos ?_ ?_); (· assumption); conv => whnf)
              | ((with_reducible refine condm_neg ?_ ?_); (· assumption); conv => whnf)
              | ((with_reducible refine forceL_fv (by assumption) ?_); conv => whnf)
              | ((with_reducible refine forceL_rfv (by assumption) ?_); conv => whnf)
              | ((with_reducible refine forceNm_of ?_); conv => whnf)
              | ((with_reducible refine needm_of (fv_lenL (by assumption) (by assumption)) ?_); conv => whnf)
              | ((with_reducible refine optm_var (fv_strL (by assumption) (by assumption)) (fun s hs => ?_)); conv => whnf)
              | ((with_reducible refine forceA_of ?_); conv => whnf)
              | ((with_reducible refine forceL_pl (by assumption) ?_); conv => whnf)
              | ((with_reducible refine forceL_rpl (by assumption) ?_); conv => whnf)
              | (refine ⟨st, hsl, ld, ?_⟩; conv => whnf)
              | ((with_reducible refine needm_of ?_ ?_); (· first | (rw [hsl, hzl]; rfl) | (rw [hsl]; rfl) | (rw [hzl]; rfl)); conv => whnf)
              | ((with_reducible refine forceL_to (whole_of ?_) ?_); (· rw [hsl]; rfl); conv => whnf)
              | ((with_reducible refine forceL_to (store_all ?_) ?_); (· rw [hsl, hzl]); conv => whnf)
              | ((with_reducible refine optm_of g1 ?_); conv => whnf)
              | ((with_reducible refine optm_of g2 ?_); conv => whnf)
              | ((with_reducible refine optm_of g4 ?_); conv => whnf)
              | ((with_reducible refine optm_of g5 ?_); conv => whnf)
              | fail)
            refine ⟨len - (i + 1), by omega, Into.weak [0, 2] (F0 (.rslc p len cap) _ _) [.cells [.int .i64 1024, .slc 1 0 1 cap'] 57 false, .cells cs 61 mk] ?_ ⟨rfl, rfl, rfl, rfl, trivial⟩ ⟨rfl, ren_pl hp _ _ _, trivial⟩ (by simp [nodupb, baseb, Ob.okb, frmOk, V.okb, A.okb, hp.2] <;> decide)⟩
            refine ⟨i + 1, sent + 1, by omega, rfl, by omega, congr (congrArg (F0 _) hw') hw, .inr ⟨[⟨fr, to, ⟨r.toArray⟩⟩], y, cs, cap', mk, hcs, hcap, by simp, by simp, ?_, rfl⟩⟩
            subst hr
            exact (Ord.none sent).send
        · refine Go.Eng.Fn.frame [0] (by rfl) (by exact ⟨rfl, trivial⟩) (by rfl) (deliver11n 1024 I ?_)
          conv => whnf
          repeat' (first
            | rw [← hz7]
            | ((with_reducible refine regx_of ?_ ?_); (· decide +kernel); conv => whnf)
            | ((with_reducible refine growx_pre ?_ ?_); (· exact ⟨_, rfl⟩); conv => whnf)
            | ((with_reducible refine needm_of ?_ ?_); (· first | assumption | exact decide_eq_true (by omega) | decide +kernel | (refine decide_eq_true ?_; simp (disch := omega) only [i64w]; omega)); conv => whnf)
            | ((with_reducible refine condm_pos ?_ ?_); (· assumption); conv => whnf)
            | ((with_reducible refine condm_neg ?_ ?_); (· assumption); conv => whnf)
            | ((with_reducible refine forceL_fv (by assumption) ?_); conv => whnf)
            | ((with_reducible refine forceL_rfv (by assumption) ?_); conv => whnf)
            | ((with_reducible refine forceNm_of ?_); conv => whnf)
            | ((with_reducible refine needm_of (fv_lenL (by assumption) (by assumption)) ?_); conv => whnf)
            | ((with_reducible refine optm_var (fv_strL (by assumption) (by assumption)) (fun s hs => ?_)); conv => whnf)
            | ((with_reducible refine forceA_of ?_); conv => whnf)
            | ((with_reducible refine forceL_pl (by assumption) ?_); conv => whnf)
            | ((with_reducible refine forceL_rpl (by assumption) ?_); conv => whnf)
            | (refine ⟨st, hsl, ld, ?_⟩; conv => whnf)
            | ((with_reducible refine needm_of ?_ ?_); (· first | (rw [hsl, hzl]; rfl) | (rw [hsl]; rfl) | (rw [hzl]; rfl)); conv => whnf)
            | ((with_reducible refine forceL_to (whole_of ?_) ?_); (· rw [hsl]; rfl); conv => whnf)
            | ((with_reducible refine forceL_to (store_all ?_) ?_); (· rw [hsl, hzl]); conv => whnf)
            | ((with_reducible refine optm_of g1 ?_); conv => whnf)
            | ((with_reducible refine optm_of g2 ?_); conv => whnf)
            | ((with_reducible refine optm_of g4 ?_); conv => whnf)
            | ((with_reducible refine optm_of g5 ?_); conv => whnf)
            | fail)
          refine ⟨len - (i + 1), by omega, Into.weak [0] (F0 (.rslc p len cap) sent _) [.cells [.int .i64 1024, .nils] 57 false] ?_ ⟨rfl, rfl, rfl, rfl, trivial⟩ ⟨rfl, trivial⟩ rfl⟩
          exact ⟨i + 1, sent, by omega, rfl, by omega, congrArg (F0 _ _) hw, .inl rfl⟩
        · refine Go.Eng.Fn.frame [0] (by rfl) (by exact ⟨rfl, trivial⟩) (by rfl) (drop12n 1024 I ?_)
          conv => whnf
          repeat' (first
            | rw [← hz7]
            | ((with_reducible refine regx_of ?_ ?_); (· decide +kernel); conv => whnf)
            | ((with_reducible refine growx_pre ?_ ?_); (· exact ⟨_, rfl⟩); conv => whnf)
            | ((with_reducible refine needm_of ?_ ?_); (· first | assumption | exact decide_eq_true (by omega) | decide +kernel | (refine decide_eq_true ?_; simp (disch := omega) only [i64w]; omega)); conv => whnf)
            | ((with_reducible refine condm_pos ?_ ?_); (· assumption); conv => whnf)
            | ((with_reducible refine condm_neg ?_ ?_); (· assumption); conv => whnf)
            | ((with_reducible refine forceL_fv (by assumption) ?_); conv => whnf)
            | ((with_reducible refine forceL_rfv (by assumption) ?_); conv => whnf)
            | ((with_reducible refine forceNm_of ?_); conv => whnf)
            | ((with_reducible refine needm_of (fv_lenL (by assumption) (by assumption)) ?_); conv => whnf)
            | ((with_reducible refine optm_var (fv_strL (by assumption) (by assumption)) (fun s hs => ?_)); conv => whnf)
            | ((with_reducible refine forceA_of ?_); conv => whnf)
            | ((with_reducible refine forceL_pl (by assumption) ?_); conv => whnf)
            | ((with_reducible refine forceL_rpl (by assumption) ?_); conv => whnf)
            | (refine ⟨st, hsl, ld, ?_⟩; conv => whnf)
            | ((with_reducible refine needm_of ?_ ?_); (· first | (rw [hsl, hzl]; rfl) | (rw [hsl]; rfl) | (rw [hzl]; rfl)); conv => whnf)
            | ((with_reducible refine forceL_to (whole_of ?_) ?_); (· rw [hsl]; rfl); conv => whnf)
            | ((with_reducible refine forceL_to (store_all ?_) ?_); (· rw [hsl, hzl]); conv => whnf)
            | ((with_reducible refine optm_of g1 ?_); conv => whnf)
            | ((with_reducible refine optm_of g2 ?_); conv => whnf)
            | ((with_reducible refine optm_of g4 ?_); conv => whnf)
            | ((with_reducible refine optm_of g5 ?_); conv => whnf)
            | fail)
          refine ⟨len - (i + 1), by omega, Into.weak [0] (F0 (.rslc p len cap) sent _) [.cells [.int .i64 1024, .nils] 57 false] ?_ ⟨rfl, rfl, rfl, rfl, trivial⟩ ⟨rfl, trivial⟩ rfl⟩
          exact ⟨i + 1, sent, by omega, rfl, by omega, congrArg (F0 _ _) hw, .inl rfl⟩
        · refine Go.Eng.Fn.frame [0] (by rfl) (by exact ⟨rfl, trivial⟩) (by rfl) (cut13n 1024 fr ?_)
          conv => whnf
          repeat' (first
            | rw [← hz7]
            | ((with_reducible refine regx_of ?_ ?_); (· decide +kernel); conv => whnf)
            | ((with_reducible refine growx_pre ?_ ?_); (· exact ⟨_, rfl⟩); conv => whnf)
            | ((with_reducible refine needm_of ?_ ?_); (· first | assumption | exact decide_eq_true (by omega) | decide +kernel | (refine decide_eq_true ?_; simp (disch := omega) only [i64w]; omega)); conv => whnf)
            | ((with_reducible refine condm_pos ?_ ?_); (· assumption); conv => whnf)
            | ((with_reducible refine condm_neg ?_ ?_); (· assumption); conv => whnf)
            | ((with_reducible refine forceL_fv (by assumption) ?_); conv => whnf)
            | ((with_reducible refine forceL_rfv (by assumption) ?_); conv => whnf)
            | ((with_reducible refine forceNm_of ?_); conv => whnf)
            | ((with_reducible refine needm_of (fv_lenL (by assumption) (by assumption)) ?_); conv => whnf)
            | ((with_reducible refine optm_var (fv_strL (by assumption) (by assumption)) (fun s hs => ?_)); conv => whnf)
            | ((with_reducible refine forceA_of ?_); conv => whnf)
            | ((with_reducible refine forceL_pl (by assumption) ?_); conv => whnf)
            | ((with_reducible refine forceL_rpl (by assumption) ?_); conv => whnf)
            | (refine ⟨st, hsl, ld, ?_⟩; conv => whnf)
            | ((with_reducible refine needm_of ?_ ?_); (· first | (rw [hsl, hzl]; rfl) | (rw [hsl]; rfl) | (rw [hzl]; rfl)); conv => whnf)
            | ((with_reducible refine forceL_to (whole_of ?_) ?_); (· rw [hsl]; rfl); conv => whnf)
            | ((with_reducible refine forceL_to (store_all ?_) ?_); (· rw [hsl, hzl]); conv => whnf)
            | ((with_reducible refine optm_of g1 ?_); conv => whnf)
            | ((with_reducible refine optm_of g2 ?_); conv => whnf)
            | ((with_reducible refine optm_of g4 ?_); conv => whnf)
            | ((with_reducible refine optm_of g5 ?_); conv => whnf)
            | fail)
          refine ⟨len - (i + 1), by omega, Into.weak [0] (F0 (.rslc p len cap) sent _) [.cells [.int .i64 1024, .nils] 57 false] ?_ ⟨rfl, rfl, rfl, rfl, trivial⟩ ⟨rfl, trivial⟩ rfl⟩
          exact ⟨i + 1, sent, by omega, rfl, by omega, congrArg (F0 _ _) hw, .inl rfl⟩
        ·
          refine ⟨len - (i + 1), by omega, Into.weak [0] (F0 (.rslc p len cap) sent _) [.cells [.int .i64 1024, .nils] 57 false] ?_ ⟨rfl, rfl, rfl, rfl, trivial⟩ ⟨rfl, trivial⟩ rfl⟩
          exact ⟨i + 1, sent, by omega, rfl, by omega, congrArg (F0 _ _) hw, .inl rfl⟩
      ·
        conv => whnf
        repeat' (first
          | rw [← hz7]
          | ((with_reducible refine regx_of ?_ ?_); (· decide +kernel); conv => whnf)
          | ((with_reducible refine growx_pre ?_ ?_); (· exact ⟨_, rfl⟩); conv => whnf)
          | ((with_reducible refine needm_of ?_ ?_); (· first | assumption | exact decide_eq_true (by omega) | decide +kernel | (refine decide_eq_true ?_; simp (disch := omega) only [i64w]; omega)); conv => whnf)
          | ((with_reducible refine condm_pos ?_ ?_); (· assumption); conv => whnf)
          | ((with_reducible refine condm_neg ?_ ?_); (· assumption); conv => whnf)
          | ((with_reducible refine forceL_fv (by assumption) ?_); conv => whnf)
          | ((with_reducible refine forceL_rfv (by assumption) ?_); conv => whnf)
          | ((with_reducible refine forceNm_of ?_); conv => whnf)
          | ((with_reducible refine needm_of (fv_lenL (by assumption) (by assumption)) ?_); conv => whnf)
          | ((with_reducible refine optm_var (fv_strL (by assumption) (by assumption)) (fun s hs => ?_)); conv => whnf)
          | ((with_reducible refine forceA_of ?_); conv => whnf)
          | ((with_reducible refine forceL_pl (by assumption) ?_); conv => whnf)
          | ((with_reducible refine forceL_rpl (by assumption) ?_); conv => whnf)
          | (refine ⟨st, hsl, ld, ?_⟩; conv => whnf)
          | ((with_reducible refine needm_of ?_ ?_); (· first | (rw [hsl, hzl]; rfl) | (rw [hsl]; rfl) | (rw [hzl]; rfl)); conv => whnf)
          | ((with_reducible refine forceL_to (whole_of ?_) ?_); (· rw [hsl]; rfl); conv => whnf)
          | ((with_reducible refine forceL_to (store_all ?_) ?_); (· rw [hsl, hzl]); conv => whnf)
          | ((with_reducible refine optm_of g1 ?_); conv => whnf)
          | ((with_reducible refine optm_of g2 ?_); conv => whnf)
          | ((with_reducible refine optm_of g4 ?_); conv => whnf)
          | ((with_reducible refine optm_of g5 ?_); conv => whnf)
          | fail)
        refine loopx_iter 1 ?_
        conv => whnf
        repeat' (first
          | rw [← hz7]
          | ((with_reducible refine regx_of ?_ ?_); (· decide +kernel); conv => whnf)
          | ((with_reducible refine growx_pre ?_ ?_); (· exact ⟨_, rfl⟩); conv => whnf)
          | ((with_reducible refine needm_of ?_ ?_); (· first | assumption | exact decide_eq_true (by omega) | decide +kernel | (refine decide_eq_true ?_; simp (disch := omega) only [i64w]; omega)); conv => whnf)
          | ((with_reducible refine condm_pos ?_ ?_); (· assumption); conv => whnf)
          | ((with_reducible refine condm_neg ?_ ?_); (· assumption); conv => whnf)
          | ((with_reducible refine forceL_fv (by assumption) ?_); conv => whnf)
          | ((with_reducible refine forceL_rfv (by assumption) ?_); conv => whnf)
          | ((with_reducible refine forceNm_of ?_); conv => whnf)
          | ((with_reducible refine needm_of (fv_lenL (by assumption) (by assumption)) ?_); conv => whnf)
          | ((with_reducible refine optm_var (fv_strL (by assumption) (by assumption)) (fun s hs => ?_)); conv => whnf)
          | ((with_reducible refine forceA_of ?_); conv => whnf)
          | ((with_reducible refine forceL_pl (by assumption) ?_); conv => whnf)
          | ((with_reducible refine forceL_rpl (by assumption) ?_); conv => whnf)
          | (refine ⟨st, hsl, ld, ?_⟩; conv => whnf)
          | ((with_reducible refine needm_of ?_ ?_); (· first | (rw [hsl, hzl]; rfl) | (rw [hsl]; rfl) | (rw [hzl]; rfl)); conv => whnf)
          | ((with_reducible refine forceL_to (whole_of ?_) ?_); (· rw [hsl]; rfl); conv => whnf)
          | ((with_reducible refine forceL_to (store_all ?_) ?_); (· rw [hsl, hzl]); conv => whnf)
          | ((with_reducible refine optm_of g1 ?_); conv => whnf)
          | ((with_reducible refine optm_of g2 ?_); conv => whnf)
          | ((with_reducible refine optm_of g4 ?_); conv => whnf)
          | ((with_reducible refine optm_of g5 ?_); conv => whnf)
          | fail)
        refine Go.Eng.Fn.frame [0] (by rfl) (by exact ⟨rfl, trivial⟩) (by rfl) (len14n 1024 ?_)
        conv => whnf
        repeat' (first
          | rw [← hz7]
          | ((with_reducible refine regx_of ?_ ?_); (· decide +kernel); conv => whnf)
          | ((with_reducible refine growx_pre ?_ ?_); (· exact ⟨_, rfl⟩); conv => whnf)
          | ((with_reducible refine needm_of ?_ ?_); (· first | assumption | exact decide_eq_true (by omega) | decide +kernel | (refine decide_eq_true ?_; simp (disch := omega) only [i64w]; omega)); conv => whnf)
          | ((with_reducible refine condm_pos ?_ ?_); (· assumption); conv => whnf)
          | ((with_reducible refine condm_neg ?_ ?_); (· assumption); conv => whnf)
          | ((with_reducible refine forceL_fv (by assumption) ?_); conv => whnf)
          | ((with_reducible refine forceL_rfv (by assumption) ?_); conv => whnf)
          | ((with_reducible refine forceNm_of ?_); conv => whnf)
          | ((with_reducible refine needm_of (fv_lenL (by assumption) (by assumption)) ?_); conv => whnf)
          | ((with_reducible refine optm_var (fv_strL (by assumption) (by assumption)) (fun s hs => ?_)); conv => whnf)
          | ((with_reducible refine forceA_of ?_); conv => whnf)
          | ((with_reducible refine forceL_pl (by assumption) ?_); conv => whnf)
          | ((with_reducible refine forceL_rpl (by assumption) ?_); conv => whnf)
          | (refine ⟨st, hsl, ld, ?_⟩; conv => whnf)
          | ((with_reducible refine needm_of ?_ ?_); (· first | (rw [hsl, hzl]; rfl) | (rw [hsl]; rfl) | (rw [hzl]; rfl)); conv => whnf)
          | ((with_reducible refine forceL_to (whole_of ?_) ?_); (· rw [hsl]; rfl); conv => whnf)
          | ((with_reducible refine forceL_to (store_all ?_) ?_); (· rw [hsl, hzl]); conv => whnf)
          | ((with_reducible refine optm_of g1 ?_); conv => whnf)
          | ((with_reducible refine optm_of g2 ?_); conv => whnf)
          | ((with_reducible refine optm_of g4 ?_); conv => whnf)
          | ((with_reducible refine optm_of g5 ?_); conv => whnf)
          | fail)
        refine Go.Eng.Fn.frame [0] (by rfl) (by exact ⟨rfl, trivial⟩) (by rfl) (len14n 1024 ?_)
        conv => whnf
        repeat' (first
          | rw [← hz7]
          | ((with_reducible refine regx_of ?_ ?_); (· decide +kernel); conv => whnf)
          | ((with_reducible refine growx_pre ?_ ?_); (· exact ⟨_, rfl⟩); conv => whnf)
          | ((with_reducible refine needm_of ?_ ?_); (· first | assumption | exact decide_eq_true (by omega) | decide +kernel | (refine decide_eq_true ?_; simp (disch := omega) only [i64w]; omega)); conv => whnf)
          | ((with_reducible refine condm_pos ?_ ?_); (· assumption); conv => whnf)
          | ((with_reducible refine condm_neg ?_ ?_); (· assumption); conv => whnf)
          | ((with_reducible refine forceL_fv (by assumption) ?_); conv => whnf)
          | ((with_reducible refine forceL_rfv (by assumption) ?_); conv => whnf)
          | ((with_reducible refine forceNm_of ?_); conv => whnf)
          | ((with_reducible refine needm_of (fv_lenL (by assumption) (by assumption)) ?_); conv => whnf)
          | ((with_reducible refine optm_var (fv_strL (by assumption) (by assumption)) (fun s hs => ?_)); conv => whnf)
          | ((with_reducible refine forceA_of ?_); conv => whnf)
          | ((with_reducible refine forceL_pl (by assumption) ?_); conv => whnf)
          | ((with_reducible refine forceL_rpl (by assumption) ?_); conv => whnf)
          | (refine ⟨st, hsl, ld, ?_⟩; conv => whnf)
          | ((with_reducible refine needm_of ?_ ?_); (· first | (rw [hsl, hzl]; rfl) | (rw [hsl]; rfl) | (rw [hzl]; rfl)); conv => whnf)
          | ((with_reducible refine forceL_to (whole_of ?_) ?_); (· rw [hsl]; rfl); conv => whnf)
          | ((with_reducible refine forceL_to (store_all ?_) ?_); (· rw [hsl, hzl]); conv => whnf)
          | ((with_reducible refine optm_of g1 ?_); conv => whnf)
          | ((with_reducible refine optm_of g2 ?_); conv => whnf)
          | ((with_reducible refine optm_of g4 ?_); conv => whnf)
          | ((with_reducible refine optm_of g5 ?_); conv => whnf)
          | fail)
        exact congrArg (fun b => V.a (A.bool b)) (decide_eq_true (by omega))
    · have hp := Pl.fls hcs
      conv => whnf
      repeat' (first
        | ((with_reducible refine regx_of ?_ ?_); (· decide +kernel); conv => whnf)
        | ((with_reducible refine growx_pre ?_ ?_); (· exact ⟨_, rfl⟩); conv => whnf)
        | ((with_reducible refine needm_of ?_ ?_); (· first | assumption | exact decide_eq_true (by omega) | decide +kernel | (refine decide_eq_true ?_; simp (disch := omega) only [i64w]; omega)); conv => whnf)
        | ((with_reducible refine condm_pos ?_ ?_); (· assumption); conv => whnf)
        | ((with_reducible refine condm_neg ?_ ?_); (· assumption); conv => whnf)
        | ((with_reducible refine forceL_fv (by assumption) ?_); conv => whnf)
        | ((with_reducible refine forceL_rfv (by assumption) ?_); conv => whnf)
        | ((with_reducible refine forceNm_of ?_); conv => whnf)
        | ((with_reducible refine needm_of (fv_lenL (by assumption) (by assumption)) ?_); conv => whnf)
        | ((with_reducible refine optm_var (fv_strL (by assumption) (by assumption)) (fun s hs => ?_)); conv => whnf)
        | ((with_reducible refine forceA_of ?_); conv => whnf)
        | ((with_reducible refine forceL_pl (by assumption) ?_); conv => whnf)
        | ((with_reducible refine forceL_rpl (by assumption) ?_); conv => whnf)
        | fail)
      refine condm_of (fun h => ?_) (fun h => ?_)
      · have hil : i < len := by have := of_decide_eq_true h; omega
        obtain ⟨hf, hro⟩ := hG.get hil
        unfold KO at hf
        obtain ⟨who, r0, e0, b0, f0⟩ := Fits.int hf
        obtain ⟨kd, r1, rfl, b1, f1⟩ := Fits.int f0
        obtain ⟨I, r2, rfl, b2, f2⟩ := Fits.int f1
        obtain ⟨J, r3, rfl, b3, f3⟩ := Fits.int f2
        obtain ⟨fr, r4, rfl, b4, f4⟩ := Fits.int f3
        obtain ⟨to, r5, rfl, b5, f5⟩ := Fits.int f4
        obtain ⟨s, r6, rfl, b6, f6⟩ := Fits.str f5
        obtain rfl := Fits.nil f6
        obtain ⟨st, hst⟩ : ∃ st : List A, st = G i := ⟨_, rfl⟩
        rw [← hst] at hro
        rw [e0] at hst
        obtain ⟨fr, rfl⟩ := u8_of b4
        obtain ⟨to, rfl⟩ := u8_of b5
        have hsl : st.length = 7 := by rw [hst]; rfl
        have hsp : Pl st := by rw [hst]; exact ⟨fun _ => rfl, fun _ => rfl⟩
        have g1 : st[1]? = some (.int .i64 kd) := by rw [hst]; rfl
        have g2 : st[2]? = some (.int .i64 I) := by rw [hst]; rfl
        have g4 : st[4]? = some (.int .u8 (fr.toNat : Int)) := by rw [hst]; rfl
        have g5 : st[5]? = some (.int .u8 (to.toNat : Int)) := by rw [hst]; rfl
        have ld : ∀ j y, st[j]? = some y → roOf W ((p.add (i * 7)).add j) y := fun j y h => by rw [addr_add_add]; exact hro j y h
        have hw := wrapi (i := i) (by omega)
        have hw' := wrapi (i := sent) (by omega)
        clear hro hst e0 b0 b1 b2 b3 b4 b5 b6 f0 f1 f2 f3 f4 f5 f6 hf hG h
        conv => whnf
        repeat' (first
          | rw [← hz7]
          | ((with_reducible refine regx_of ?_ ?_); (· decide +kernel); conv => whnf)
          | ((with_reducible refine growx_pre ?_ ?_); (· exact ⟨_, rfl⟩); conv => whnf)
          | ((with_reducible refine needm_of ?_ ?_); (· first | assumption | exact decide_eq_true (by omega) | decide +kernel | (refine decide_eq_true ?_; simp (disch := omega) only [i64w]; omega)); conv => whnf)
          | ((with_reducible refine condm_pos ?_ ?_); (· assumption); conv => whnf)
          | ((with_reducible refine condm_neg ?_ ?_); (· assumption); conv => whnf)
          | ((with_reducible refine forceL_fv (by assumption) ?_); conv => whnf)
          | ((with_reducible refine forceL_rfv (by assumption) ?_); conv => whnf)
          | ((with_reducible refine forceNm_of ?_); conv => whnf)
          | ((with_reducible refine needm_of (fv_lenL (by assumption) (by assumption)) ?_); conv => whnf)
          | ((with_reducible refine optm_var (fv_strL (by assumption) (by assumption)) (fun s hs => ?_)); conv => whnf)
          | ((with_reducible refine forceA_of ?_); conv => whnf)
          | ((with_reducible refine forceL_pl (by assumption) ?_); conv => whnf)
          | ((with_reducible refine forceL_rpl (by assumption) ?_); conv => whnf)
          | (refine ⟨st, hsl, ld, ?_⟩; conv => whnf)
          | ((with_reducible refine needm_of ?_ ?_); (· first | (rw [hsl, hzl]; rfl) | (rw [hsl]; rfl) | (rw [hzl]; rfl)); conv => whnf)
          | ((with_reducible refine forceL_to (whole_of ?_) ?_); (· rw [hsl]; rfl); conv => whnf)
          | ((with_reducible refine forceL_to (store_all ?_) ?_); (· rw [hsl, hzl]); conv => whnf)
          | ((with_reducible refine optm_of g1 ?_); conv => whnf)
          | ((with_reducible refine optm_of g2 ?_); conv => whnf)
          | ((with_reducible refine optm_of g4 ?_); conv => whnf)
          | ((with_reducible refine optm_of g5 ?_); conv => whnf)
          | ((with_reducible refine condm_of (fun h => ?_) (fun h => ?_)) <;> (conv => whnf))
          | fail)
        · refine Go.Eng.Fn.frame [] (by rfl) (by exact trivial) (by rfl) (number10 sent (fun r hr => ?_))
          conv => whnf
          repeat' (first
            | (refine growx_pre ⟨[], by rw [List.append_nil]; rfl⟩ ?_; conv => whnf)
            | rw [← hz7]
            | ((with_reducible refine regx_of ?_ ?_); (· decide +kernel); conv => whnf)
            | ((with_reducible refine growx_pre ?_ ?_); (· exact ⟨_, rfl⟩); conv => whnf)
            | ((with_reducible refine needm_of ?_ ?_); (· first | assumption | exact decide_eq_true (by omega) | decide +kernel | (refine decide_eq_true ?_; simp (disch := omega) only [i64w]; omega)); conv => whnf)
            | ((with_reducible refine condm_pos ?_ ?_); (· assumption); conv => whnf)
            | ((with_reducible refine condm_neg ?_ ?_); (· assumption); conv => whnf)
            | ((with_reducible refine forceL_fv (by assumption) ?_); conv => whnf)
            | ((with_reducible refine forceL_rfv (by assumption) ?_); conv => whnf)
            | ((with_reducible refine forceNm_of ?_); conv => whnf)
            | ((with_reducible refine needm_of (fv_lenL (by assumption) (by assumption)) ?_); conv => whnf)
            | ((with_reducible refine optm_var (fv_strL (by assumption) (by assumption)) (fun s hs => ?_)); conv => whnf)
            | ((with_reducible refine forceA_of ?_); conv => whnf)
            | ((with_reducible refine forceL_pl (by assumption) ?_); conv => whnf)
            | ((with_reducible refine forceL_rpl (by assumption) ?_); conv => whnf)
            | (refine ⟨st, hsl, ld, ?_⟩; conv => whnf)
            | ((with_reducible refine needm_of ?_ ?_); (· first | (rw [hsl, hzl]; rfl) | (rw [hsl]; rfl) | (rw [hzl]; rfl)); conv => whnf)
            | ((with_reducible refine forceL_to (whole_of ?_) ?_); (· rw [hsl]; rfl); conv => whnf)
            | ((with_reducible refine forceL_to (store_all ?_) ?_); (· rw [hsl, hzl]); conv => whnf)
            | ((with_reducible refine optm_of g1 ?_); conv => whnf)
            | ((with_reducible refine optm_of g2 ?_); conv => whnf)
            | ((with_reducible refine optm_of g4 ?_); conv => whnf)
            | ((with_reducible refine optm_of g5 ?_); conv => whnf)
            | fail)
          refine Go.Eng.Fn.frame [0, 1] (by rfl) (by exact ⟨rfl, ren_pl hp _ _ _, trivial⟩) (by simp [nodupb, V.okb, A.okb, Ob.okb, hp.2] <;> decide) (send9 1024 fr to ⟨r.toArray⟩ L y cs cap' mk hcs hcap hL (fun h9 => ?_) (fun h9 h8 => ?_) (fun h9 h8 y2 cs2 hcs2 hcap2 => ?_) (fun h9 h8 y2 cs2 cap2 hcs2 hcap2 => ?_))
          ·
            conv => whnf
            repeat' (first
              | rw [← hz7]
              | ((with_reducible refine regx_of ?_ ?_); (· decide +kernel); conv => whnf)
              | ((with_reducible refine growx_pre ?_ ?_); (· exact ⟨_, rfl⟩); conv => whnf)
              | ((with_reducible refine needm_of ?_ ?_); (· first | assumption | exact decide_eq_true (by omega) | decide +kernel | (refine decide_eq_true ?_; simp (disch := omega) only [i64w]; omega)); conv => whnf)
              | ((with_reducible refine condm_pos ?_ ?_); (· assumption); conv => whnf)
              | ((with_reducible refine condm_neg ?_ ?_); (· assumption); conv => whnf)
              | ((with_reducible refine forceL_fv (by assumption) ?_); conv => whnf)
              | ((with_reducible refine forceL_rfv (by assumption) ?_); conv => whnf)
              | ((with_reducible refine forceNm_of ?_); conv => whnf)
              | ((with_reducible refine needm_of (fv_lenL (by assumption) (by assumption)) ?_); conv => whnf)
              | ((with_reducible refine optm_var (fv_strL (by assumption) (by assumption)) (fun s hs => ?_)); conv => whnf)
              | ((with_reducible refine forceA_of ?_); conv => whnf)
              | ((with_reducible refine forceL_pl (by assumption) ?_); conv => whnf)
              | ((with_reducible refine forceL_rpl (by assumption) ?_); conv => whnf)
              | (refine ⟨st, hsl, ld, ?_⟩; conv => whnf)
              | ((with_reducible refine needm_of ?_ ?_); (· first | (rw [hsl, hzl]; rfl) | (rw [hsl]; rfl) | (rw [hzl]; rfl)); conv => whnf)
              | ((with_reducible refine forceL_to (whole_of ?_) ?_); (· rw [hsl]; rfl); conv => whnf)
              | ((with_reducible refine forceL_to (store_all ?_) ?_); (· rw [hsl, hzl]); conv => whnf)
              | ((with_reducible refine optm_of g1 ?_); conv => whnf)
              | ((with_reducible refine optm_of g2 ?_); conv => whnf)
              | ((with_reducible refine optm_of g4 ?_); conv => whnf)
              | ((with_reducible refine optm_of g5 ?_); conv => whnf)
              | fail)
            refine ⟨len - (i + 1), by omega, Into.weak [0, 1] (F0 (.rslc p len cap) _ _) [.cells [.int .i64 1024, .slc 1 0 L.length cap'] 57 false, .cells cs 61 mk] ?_ ⟨rfl, rfl, rfl, rfl, trivial⟩ ⟨rfl, ren_pl hp _ _ _, trivial⟩ (by simp [nodupb, baseb, Ob.okb, frmOk, V.okb, A.okb, hp.2] <;> decide)⟩
            exact ⟨i + 1, sent, by omega, rfl, by omega, congrArg (F0 _ _) hw, .inr ⟨L, y, cs, cap', mk, hcs, hcap, hL, hLs, hO, rfl⟩⟩
          ·
            conv => whnf
            repeat' (first
              | rw [← hz7]
              | ((with_reducible refine regx_of ?_ ?_); (· decide +kernel); conv => whnf)
              | ((with_reducible refine growx_pre ?_ ?_); (· exact ⟨_, rfl⟩); conv => whnf)
              | ((with_reducible refine needm_of ?_ ?_); (· first | assumption | exact decide_eq_true (by omega) | decide +kernel | (refine decide_eq_true ?_; simp (disch := omega) only [i64w]; omega)); conv => whnf)
              | ((with_reducible refine condm_pos ?_ ?_); (· assumption); conv => whnf)
              | ((with_reducible refine condm_neg ?_ ?_); (· assumption); conv => whnf)
              | ((with_reducible refine forceL_fv (by assumption) ?_); conv => whnf)
              | ((with_reducible refine forceL_rfv (by assumption) ?_); conv => whnf)
              | ((with_reducible refine forceNm_of ?_); conv => whnf)
              | ((with_reducible refine needm_of (fv_lenL (by assumption) (by assumption)) ?_); conv => whnf)
              | ((with_reducible refine optm_var (fv_strL (by assumption) (by assumption)) (fun s hs => ?_)); conv => whnf)
              | ((with_reducible refine forceA_of ?_); conv => whnf)
              | ((with_reducible refine forceL_pl (by assumption) ?_); conv => whnf)
              | ((with_reducible refine forceL_rpl (by assumption) ?_); conv => whnf)
              | (refine ⟨st, hsl, ld, ?_⟩; conv => whnf)
              | ((with_reducible refine needm_of ?_ ?_); (· first | (rw [hsl, hzl]; rfl) | (rw [hsl]; rfl) | (rw [hzl]; rfl)); conv => whnf)
              | ((with_reducible refine forceL_to (whole_of ?_) ?_); (· rw [hsl]; rfl); conv => whnf)
              | ((with_reducible refine forceL_to (store_all ?_) ?_); (· rw [hsl, hzl]); conv => whnf)
              | ((with_reducible refine optm_of g1 ?_); conv => whnf)
              | ((with_reducible refine optm_of g2 ?_); conv => whnf)
              | ((with_reducible refine optm_of g4 ?_); conv => whnf)
              | ((with_reducible refine optm_of g5 ?_); conv => whnf)
              | fail)
            refine ⟨len - (i + 1), by omega, Into.weak [0, 1] (F0 (.rslc p len cap) _ _) [.cells [.int .i64 1024, .slc 1 0 L.length cap'] 57 false, .cells cs 61 mk] ?_ ⟨rfl, rfl, rfl, rfl, trivial⟩ ⟨rfl, ren_pl hp _ _ _, trivial⟩ (by simp [nodupb, baseb, Ob.okb, frmOk, V.okb, A.okb, hp.2] <;> decide)⟩
            exact ⟨i + 1, sent, by omega, rfl, by omega, congrArg (F0 _ _) hw, .inr ⟨L, y, cs, cap', mk, hcs, hcap, hL, hLs, hO, rfl⟩⟩
          · have hp2 := Pl.fls hcs2
            have hn' : (L ++ [(⟨fr, to, ⟨r.toArray⟩⟩ : Fl)]).length = L.length + 1 := by rw [List.length_append]; rfl
            generalize hn : (L ++ [(⟨fr, to, ⟨r.toArray⟩⟩ : Fl)]).length = n at *
            conv => whnf
            repeat' (first
              | rw [← hz7]
              | ((with_reducible refine regx_of ?_ ?_); (· decide +kernel); conv => whnf)
              | ((with_reducible refine growx_pre ?_ ?_); (· exact ⟨_, rfl⟩); conv => whnf)
              | ((with_reducible refine needm_of ?_ ?_); (· first | assumption | exact decide_eq_true (by omega) | decide +kernel | (refine decide_eq_true ?_; simp (disch := omega) only [i64w]; omega)); conv => whnf)
              | ((with_reducible refine condm_pos ?_ ?_); (· assumption); conv => whnf)
              | ((with_reducible refine condm_neg ?_ ?_); (· assumption); conv => whnf)
              | ((with_reducible refine forceL_fv (by assumption) ?_); conv => whnf)
              | ((with_reducible refine forceL_rfv (by assumption) ?_); conv => whnf)
              | ((with_reducible refine forceNm_of ?_); conv => whnf)
              | ((with_reducible refine needm_of (fv_lenL (by assumption) (by assumption)) ?_); conv => whnf)
              | ((with_reducible refine optm_var (fv_strL (by assumption) (by assumption)) (fun s hs => ?_)); conv => whnf)
              | ((with_reducible refine forceA_of ?_); conv => whnf)
              | ((with_reducible refine forceL_pl (by assumption) ?_); conv => whnf)
              | ((with_reducible refine forceL_rpl (by assumption) ?_); conv => whnf)
              | (refine ⟨st, hsl, ld, ?_⟩; conv => whnf)
              | ((with_reducible refine needm_of ?_ ?_); (· first | (rw [hsl, hzl]; rfl) | (rw [hsl]; rfl) | (rw [hzl]; rfl)); conv => whnf)
              | ((with_reducible refine forceL_to (whole_of ?_) ?_); (· rw [hsl]; rfl); conv => whnf)
              | ((with_reducible refine forceL_to (store_all ?_) ?_); (· rw [hsl, hzl]); conv => whnf)
              | ((with_reducible refine optm_of g1 ?_); conv => whnf)
              | ((with_reducible refine optm_of g2 ?_); conv => whnf)
              | ((with_reducible refine optm_of g4 ?_); conv => whnf)
              | ((with_reducible refine optm_of g5 ?_); conv => whnf)
              | fail)
            refine ⟨len - (i + 1), by omega, Into.weak [0, 1] (F0 (.rslc p len cap) _ _) [.cells [.int .i64 1024, .slc 1 0 n cap'] 57 false, .cells cs2 61 mk] ?_ ⟨rfl, rfl, rfl, rfl, trivial⟩ ⟨rfl, ren_pl hp2 _ _ _, trivial⟩ (by simp [nodupb, baseb, Ob.okb, frmOk, V.okb, A.okb, hp2.2] <;> decide)⟩
            exact ⟨i + 1, sent + 1, by omega, rfl, by omega, congr (congrArg (F0 _) hw') hw, .inr ⟨(L ++ [(⟨fr, to, ⟨r.toArray⟩⟩ : Fl)]), y2, cs2, cap', mk, hcs2, (by rw [hn]; exact hcap2), (by rw [hn]; omega), (by rw [hn]; omega), (by subst hr; exact hO.send), by rw [hn]⟩⟩
          · have hp2 := Pl.fls hcs2
            have hn' : (L ++ [(⟨fr, to, ⟨r.toArray⟩⟩ : Fl)]).length = L.length + 1 := by rw [List.length_append]; rfl
            generalize hn : (L ++ [(⟨fr, to, ⟨r.toArray⟩⟩ : Fl)]).length = n at *
            conv => whnf
            repeat' (first
              | rw [← hz7]
              | ((with_reducible refine regx_of ?_ ?_); (· decide +kernel); conv => whnf)
              | ((with_reducible refine growx_pre ?_ ?_); (· exact ⟨_, rfl⟩); conv => whnf)
              | ((with_reducible refine needm_of ?_ ?_); (· first | assumption | exact decide_eq_true (by omega) | decide +kernel | (refine decide_eq_true ?_; simp (disch := omega) only [i64w]; omega)); conv => whnf)
              | ((with_reducible refine condm_pos ?_ ?_); (· assumption); conv => whnf)
              | ((with_reducible refine condm_neg ?_ ?_); (· assumption); conv => whnf)
              | ((with_reducible refine forceL_fv (by assumption) ?_); conv => whnf)
              | ((with_reducible refine forceL_rfv (by assumption) ?_); conv => whnf)
              | ((with_reducible refine forceNm_of ?_); conv => whnf)
              | ((with_reducible refine needm_of (fv_lenL (by assumption) (by assumption)) ?_); conv => whnf)
              | ((with_reducible refine optm_var (fv_strL (by assumption) (by assumption)) (fun s hs => ?_)); conv => whnf)
              | ((with_reducible refine forceA_of ?_); conv => whnf)
              | ((with_reducible refine forceL_pl (by assumption) ?_); conv => whnf)
              | ((with_reducible refine forceL_rpl (by assumption) ?_); conv => whnf)
              | (refine ⟨st, hsl, ld, ?_⟩; conv => whnf)
              | ((with_reducible refine needm_of ?_ ?_); (· first | (rw [hsl, hzl]; rfl) | (rw [hsl]; rfl) | (rw [hzl]; rfl)); conv => whnf)
              | ((with_reducible refine forceL_to (whole_of ?_) ?_); (· rw [hsl]; rfl); conv => whnf)
              | ((with_reducible refine forceL_to (store_all ?_) ?_); (· rw [hsl, hzl]); conv => whnf)
              | ((with_reducible refine optm_of g1 ?_); conv => whnf)
              | ((with_reducible refine optm_of g2 ?_); conv => whnf)
              | ((with_reducible refine optm_of g4 ?_); conv => whnf)
              | ((with_reducible refine optm_of g5 ?_); conv => whnf)
              | fail)
            refine ⟨len - (i + 1), by omega, Into.weak [0, 3] (F0 (.rslc p len cap) _ _) [.cells [.int .i64 1024, .slc 1 0 n cap2] 57 false, .cells cs2 61 false] ?_ ⟨rfl, rfl, rfl, rfl, trivial⟩ ⟨rfl, ren_pl hp2 _ _ _, trivial⟩ (by simp [nodupb, baseb, Ob.okb, frmOk, V.okb, A.okb, hp2.2] <;> decide)⟩
            exact ⟨i + 1, sent + 1, by omega, rfl, by omega, congr (congrArg (F0 _) hw') hw, .inr ⟨(L ++ [(⟨fr, to, ⟨r.toArray⟩⟩ : Fl)]), y2, cs2, cap2, false, hcs2, (by rw [hn]; exact hcap2), (by rw [hn]; omega), (by rw [hn]; omega), (by subst hr; exact hO.send), by rw [hn]⟩⟩
        · refine Go.Eng.Fn.frame [0, 1] (by rfl) (by exact ⟨rfl, ren_pl hp _ _ _, trivial⟩) (by simp [nodupb, V.okb, A.okb, Ob.okb, hp.2] <;> decide) (deliver11 1024 I L y cs cap' mk hcs hcap hL (fun h9 => ?_) (fun x hx h9 y2 cs2 hcs2 hcap2 => ?_))
          ·
            conv => whnf
            repeat' (first
              | rw [← hz7]
              | ((with_reducible refine regx_of ?_ ?_); (· decide +kernel); conv => whnf)
              | ((with_reducible refine growx_pre ?_ ?_); (· exact ⟨_, rfl⟩); conv => whnf)
              | ((with_reducible refine needm_of ?_ ?_); (· first | assumption | exact decide_eq_true (by omega) | decide +kernel | (refine decide_eq_true ?_; simp (disch := omega) only [i64w]; omega)); conv => whnf)
              | ((with_reducible refine condm_pos ?_ ?_); (· assumption); conv => whnf)
              | ((with_reducible refine condm_neg ?_ ?_); (· assumption); conv => whnf)
              | ((with_reducible refine forceL_fv (by assumption) ?_); conv => whnf)
              | ((with_reducible refine forceL_rfv (by assumption) ?_); conv => whnf)
              | ((with_reducible refine forceNm_of ?_); conv => whnf)
              | ((with_reducible refine needm_of (fv_lenL (by assumption) (by assumption)) ?_); conv => whnf)
              | ((with_reducible refine optm_var (fv_strL (by assumption) (by assumption)) (fun s hs => ?_)); conv => whnf)
              | ((with_reducible refine forceA_of ?_); conv => whnf)
              | ((with_reducible refine forceL_pl (by assumption) ?_); conv => whnf)
              | ((with_reducible refine forceL_rpl (by assumption) ?_); conv => whnf)
              | (refine ⟨st, hsl, ld, ?_⟩; conv => whnf)
              | ((with_reducible refine needm_of ?_ ?_); (· first | (rw [hsl, hzl]; rfl) | (rw [hsl]; rfl) | (rw [hzl]; rfl)); conv => whnf)
              | ((with_reducible refine forceL_to (whole_of ?_) ?_); (· rw [hsl]; rfl); conv => whnf)
              | ((with_reducible refine forceL_to (store_all ?_) ?_); (· rw [hsl, hzl]); conv => whnf)
              | ((with_reducible refine optm_of g1 ?_); conv => whnf)
              | ((with_reducible refine optm_of g2 ?_); conv => whnf)
              | ((with_reducible refine optm_of g4 ?_); conv => whnf)
              | ((with_reducible refine optm_of g5 ?_); conv => whnf)
              | fail)
            refine ⟨len - (i + 1), by omega, Into.weak [0, 1] (F0 (.rslc p len cap) _ _) [.cells [.int .i64 1024, .slc 1 0 L.length cap'] 57 false, .cells cs 61 mk] ?_ ⟨rfl, rfl, rfl, rfl, trivial⟩ ⟨rfl, ren_pl hp _ _ _, trivial⟩ (by simp [nodupb, baseb, Ob.okb, frmOk, V.okb, A.okb, hp.2] <;> decide)⟩
            exact ⟨i + 1, sent, by omega, rfl, by omega, congrArg (F0 _ _) hw, .inr ⟨L, y, cs, cap', mk, hcs, hcap, hL, hLs, hO, rfl⟩⟩
          · have hp2 := Pl.fls hcs2
            have hn' : (L.eraseIdx I.toNat).length ≤ L.length := List.length_eraseIdx_le L _
            generalize hn : (L.eraseIdx I.toNat).length = n at *
            conv => whnf
            repeat' (first
              | rw [← hz7]
              | ((with_reducible refine regx_of ?_ ?_); (· decide +kernel); conv => whnf)
              | ((with_reducible refine growx_pre ?_ ?_); (· exact ⟨_, rfl⟩); conv => whnf)
              | ((with_reducible refine needm_of ?_ ?_); (· first | assumption | exact decide_eq_true (by omega) | decide +kernel | (refine decide_eq_true ?_; simp (disch := omega) only [i64w]; omega)); conv => whnf)
              | ((with_reducible refine condm_pos ?_ ?_); (· assumption); conv => whnf)
              | ((with_reducible refine condm_neg ?_ ?_); (· assumption); conv => whnf)
              | ((with_reducible refine forceL_fv (by assumption) ?_); conv => whnf)
              | ((with_reducible refine forceL_rfv (by assumption) ?_); conv => whnf)
              | ((with_reducible refine forceNm_of ?_); conv => whnf)
              | ((with_reducible refine needm_of (fv_lenL (by assumption) (by assumption)) ?_); conv => whnf)
              | ((with_reducible refine optm_var (fv_strL (by assumption) (by assumption)) (fun s hs => ?_)); conv => whnf)
              | ((with_reducible refine forceA_of ?_); conv => whnf)
              | ((with_reducible refine forceL_pl (by assumption) ?_); conv => whnf)
              | ((with_reducible refine forceL_rpl (by assumption) ?_); conv => whnf)
              | (refine ⟨st, hsl, ld, ?_⟩; conv => whnf)
              | ((with_reducible refine needm_of ?_ ?_); (· first | (rw [hsl, hzl]; rfl) | (rw [hsl]; rfl) | (rw [hzl]; rfl)); conv => whnf)
              | ((with_reducible refine forceL_to (whole_of ?_) ?_); (· rw [hsl]; rfl); conv => whnf)
              | ((with_reducible refine forceL_to (store_all ?_) ?_); (· rw [hsl, hzl]); conv => whnf)
              | ((with_reducible refine optm_of g1 ?_); conv => whnf)
              | ((with_reducible refine optm_of g2 ?_); conv => whnf)
              | ((with_reducible refine optm_of g4 ?_); conv => whnf)
              | ((with_reducible refine optm_of g5 ?_); conv => whnf)
              | fail)
            refine ⟨len - (i + 1), by omega, Into.weak [0, 1] (F0 (.rslc p len cap) _ _) [.cells [.int .i64 1024, .slc 1 0 n cap'] 57 false, .cells cs2 61 mk] ?_ ⟨rfl, rfl, rfl, rfl, trivial⟩ ⟨rfl, ren_pl hp2 _ _ _, trivial⟩ (by simp [nodupb, baseb, Ob.okb, frmOk, V.okb, A.okb, hp2.2] <;> decide)⟩
            exact ⟨i + 1, sent, by omega, rfl, by omega, congrArg (F0 _ _) hw, .inr ⟨(L.eraseIdx I.toNat), y2, cs2, cap', mk, hcs2, (by rw [hn]; exact hcap2), (by rw [hn]; omega), (by rw [hn]; omega), (hO.erase _), by rw [hn]⟩⟩
        · refine Go.Eng.Fn.frame [0, 1] (by rfl) (by exact ⟨rfl, ren_pl hp _ _ _, trivial⟩) (by simp [nodupb, V.okb, A.okb, Ob.okb, hp.2] <;> decide) (drop12 1024 I L y cs cap' mk hcs hcap hL (fun h9 => ?_) (fun h9 y2 cs2 hcs2 hcap2 => ?_))
          ·
            conv => whnf
            repeat' (first
              | rw [← hz7]
              | ((with_reducible refine regx_of ?_ ?_); (· decide +kernel); conv => whnf)
              | ((with_reducible refine growx_pre ?_ ?_); (· exact ⟨_, rfl⟩); conv => whnf)
              | ((with_reducible refine needm_of ?_ ?_); (· first | assumption | exact decide_eq_true (by omega) | decide +kernel | (refine decide_eq_true ?_; simp (disch := omega) only [i64w]; omega)); conv => whnf)
              | ((with_reducible refine condm_pos ?_ ?_); (· assumption); conv => whnf)
              | ((with_reducible refine condm_neg ?_ ?_); (· assumption); conv => whnf)
              | ((with_reducible refine forceL_fv (by assumption) ?_); conv => whnf)
              | ((with_reducible refine forceL_rfv (by assumption) ?_); conv => whnf)
              | ((with_reducible refine forceNm_of ?_); conv => whnf)
              | ((with_reducible refine needm_of (fv_lenL (by assumption) (by assumption)) ?_); conv => whnf)
              | ((with_reducible refine optm_var (fv_strL (by assumption) (by assumption)) (fun s hs => ?_)); conv => whnf)
              | ((with_reducible refine forceA_of ?_); conv => whnf)
              | ((with_reducible refine forceL_pl (by assumption) ?_); conv => whnf)
              | ((with_reducible refine forceL_rpl (by assumption) ?_); conv => whnf)
              | (refine ⟨st, hsl, ld, ?_⟩; conv => whnf)
              | ((with_reducible refine needm_of ?_ ?_); (· first | (rw [hsl, hzl]; rfl) | (rw [hsl]; rfl) | (rw [hzl]; rfl)); conv => whnf)
              | ((with_reducible refine forceL_to (whole_of ?_) ?_); (· rw [hsl]; rfl); conv => whnf)
              | ((with_reducible refine forceL_to (store_all ?_) ?_); (· rw [hsl, hzl]); conv => whnf)
              | ((with_reducible refine optm_of g1 ?_); conv => whnf)
              | ((with_reducible refine optm_of g2 ?_); conv => whnf)
              | ((with_reducible refine optm_of g4 ?_); conv => whnf)
              | ((with_reducible refine optm_of g5 ?_); conv => whnf)
              | fail)
            refine ⟨len - (i + 1), by omega, Into.weak [0, 1] (F0 (.rslc p len cap) _ _) [.cells [.int .i64 1024, .slc 1 0 L.length cap'] 57 false, .cells cs 61 mk] ?_ ⟨rfl, rfl, rfl, rfl, trivial⟩ ⟨rfl, ren_pl hp _ _ _, trivial⟩ (by simp [nodupb, baseb, Ob.okb, frmOk, V.okb, A.okb, hp.2] <;> decide)⟩
            exact ⟨i + 1, sent, by omega, rfl, by omega, congrArg (F0 _ _) hw, .inr ⟨L, y, cs, cap', mk, hcs, hcap, hL, hLs, hO, rfl⟩⟩
          · have hp2 := Pl.fls hcs2
            have hn' : (L.eraseIdx I.toNat).length ≤ L.length := List.length_eraseIdx_le L _
            generalize hn : (L.eraseIdx I.toNat).length = n at *
            conv => whnf
            repeat' (first
              | rw [← hz7]
              | ((with_reducible refine regx_of ?_ ?_); (· decide +kernel); conv => whnf)
              | ((with_reducible refine growx_pre ?_ ?_); (· exact ⟨_, rfl⟩); conv => whnf)
              | ((with_reducible refine needm_of ?_ ?_); (· first | assumption | exact decide_eq_true (by omega) | decide +kernel | (refine decide_eq_true ?_; simp (disch := omega) only [i64w]; omega)); conv => whnf)
              | ((with_reducible refine condm_pos ?_ ?_); (· assumption); conv => whnf)
              | ((with_reducible refine condm_neg ?_ ?_); (· assumption); conv => whnf)
              | ((with_reducible refine forceL_fv (by assumption) ?_); conv => whnf)
              | ((with_reducible refine forceL_rfv (by assumption) ?_); conv => whnf)
              | ((with_reducible refine forceNm_of ?_); conv => whnf)
              | ((with_reducible refine needm_of (fv_lenL (by assumption) (by assumption)) ?_); conv => whnf)
              | ((with_reducible refine optm_var (fv_strL (by assumption) (by assumption)) (fun s hs => ?_)); conv => whnf)
              | ((with_reducible refine forceA_of ?_); conv => whnf)
              | ((with_reducible refine forceL_pl (by assumption) ?_); conv => whnf)
              | ((with_reducible refine forceL_rpl (by assumption) ?_); conv => whnf)
              | (refine ⟨st, hsl, ld, ?_⟩; conv => whnf)
              | ((with_reducible refine needm_of ?_ ?_); (· first | (rw [hsl, hzl]; rfl) | (rw [hsl]; rfl) | (rw [hzl]; rfl)); conv => whnf)
              | ((with_reducible refine forceL_to (whole_of ?_) ?_); (· rw [hsl]; rfl); conv => whnf)
              | ((with_reducible refine forceL_to (store_all ?_) ?_); (· rw [hsl, hzl]); conv => whnf)
              | ((with_reducible refine optm_of g1 ?_); conv => whnf)
              | ((with_reducible refine optm_of g2 ?_); conv => whnf)
              | ((with_reducible refine optm_of g4 ?_); conv => whnf)
              | ((with_reducible refine optm_of g5 ?_); conv => whnf)
              | fail)
            refine ⟨len - (i + 1), by omega, Into.weak [0, 1] (F0 (.rslc p len cap) _ _) [.cells [.int .i64 1024, .slc 1 0 n cap'] 57 false, .cells cs2 61 mk] ?_ ⟨rfl, rfl, rfl, rfl, trivial⟩ ⟨rfl, ren_pl hp2 _ _ _, trivial⟩ (by simp [nodupb, baseb, Ob.okb, frmOk, V.okb, A.okb, hp2.2] <;> decide)⟩
            exact ⟨i + 1, sent, by omega, rfl, by omega, congrArg (F0 _ _) hw, .inr ⟨(L.eraseIdx I.toNat), y2, cs2, cap', mk, hcs2, (by rw [hn]; exact hcap2), (by rw [hn]; omega), (by rw [hn]; omega), (hO.erase _), by rw [hn]⟩⟩
        · refine Go.Eng.Fn.frame [0, 1] (by rfl) (by exact ⟨rfl, ren_pl hp _ _ _, trivial⟩) (by simp [nodupb, V.okb, A.okb, Ob.okb, hp.2] <;> decide) (cut13 1024 fr L y cs cap' mk hcs hcap hL (fun y2 cs2 hcs2 hcap2 => ?_))
          have hp2 := Pl.fls hcs2
          have hn' : (L.filter (fun x => !hit fr x)).length ≤ L.length := List.length_filter_le _ _
          generalize hn : (L.filter (fun x => !hit fr x)).length = n at *
          conv => whnf
          repeat' (first
            | rw [← hz7]
            | ((with_reducible refine regx_of ?_ ?_); (· decide +kernel); conv => whnf)
            | ((with_reducible refine growx_pre ?_ ?_); (· exact ⟨_, rfl⟩); conv => whnf)
            | ((with_reducible refine needm_of ?_ ?_); (· first | assumption | exact decide_eq_true (by omega) | decide +kernel | (refine decide_eq_true ?_; simp (disch := omega) only [i64w]; omega)); conv => whnf)
            | ((with_reducible refine condm_pos ?_ ?_); (· assumption); conv => whnf)
            | ((with_reducible refine condm_neg ?_ ?_); (· assumption); conv => whnf)
            | ((with_reducible refine forceL_fv (by assumption) ?_); conv => whnf)
            | ((with_reducible refine forceL_rfv (by assumption) ?_); conv => whnf)
            | ((with_reducible refine forceNm_of ?_); conv => whnf)
            | ((with_reducible refine needm_of (fv_lenL (by assumption) (by assumption)) ?_); conv => whnf)
            | ((with_reducible refine optm_var (fv_strL (by assumption) (by assumption)) (fun s hs => ?_)); conv => whnf)
            | ((with_reducible refine forceA_of ?_); conv => whnf)
            | ((with_reducible refine forceL_pl (by assumption) ?_); conv => whnf)
            | ((with_reducible refine forceL_rpl (by assumption) ?_); conv => whnf)
            | (refine ⟨st, hsl, ld, ?_⟩; conv => whnf)
            | ((with_reducible refine needm_of ?_ ?_); (· first | (rw [hsl, hzl]; rfl) | (rw [hsl]; rfl) | (rw [hzl]; rfl)); conv => whnf)
            | ((with_reducible refine forceL_to (whole_of ?_) ?_); (· rw [hsl]; rfl); conv => whnf)
            | ((with_reducible refine forceL_to (store_all ?_) ?_); (· rw [hsl, hzl]); conv => whnf)
            | ((with_reducible refine optm_of g1 ?_); conv => whnf)
            | ((with_reducible refine optm_of g2 ?_); conv => whnf)
            | ((with_reducible refine optm_of g4 ?_); conv => whnf)
            | ((with_reducible refine optm_of g5 ?_); conv => whnf)
            | fail)
          refine ⟨len - (i + 1), by omega, Into.weak [0, 1] (F0 (.rslc p len cap) _ _) [.cells [.int .i64 1024, .slc 1 0 n cap'] 57 false, .cells cs2 61 mk] ?_ ⟨rfl, rfl, rfl, rfl, trivial⟩ ⟨rfl, ren_pl hp2 _ _ _, trivial⟩ (by simp [nodupb, baseb, Ob.okb, frmOk, V.okb, A.okb, hp2.2] <;> decide)⟩
          exact ⟨i + 1, sent, by omega, rfl, by omega, congrArg (F0 _ _) hw, .inr ⟨(L.filter (fun x => !hit fr x)), y2, cs2, cap', mk, hcs2, (by rw [hn]; exact hcap2), (by rw [hn]; omega), (by rw [hn]; omega), (hO.cut _), by rw [hn]⟩⟩
        ·
          refine ⟨len - (i + 1), by omega, Into.weak [0, 1] (F0 (.rslc p len cap) _ _) [.cells [.int .i64 1024, .slc 1 0 L.length cap'] 57 false, .cells cs 61 mk] ?_ ⟨rfl, rfl, rfl, rfl, trivial⟩ ⟨rfl, ren_pl hp _ _ _, trivial⟩ (by simp [nodupb, baseb, Ob.okb, frmOk, V.okb, A.okb, hp.2] <;> decide)⟩
          exact ⟨i + 1, sent, by omega, rfl, by omega, congrArg (F0 _ _) hw, .inr ⟨L, y, cs, cap', mk, hcs, hcap, hL, hLs, hO, rfl⟩⟩
      · obtain ⟨ks, hks, hkp, hkb⟩ := hO
        have hkl : ks.length = L.length := by have := congrArg List.length hks; simpa using this.symm
        conv => whnf
        repeat' (first
          | rw [← hz7]
          | ((with_reducible refine regx_of ?_ ?_); (· decide +kernel); conv => whnf)
          | ((with_reducible refine growx_pre ?_ ?_); (· exact ⟨_, rfl⟩); conv => whnf)
          | ((with_reducible refine needm_of ?_ ?_); (· first | assumption | exact decide_eq_true (by omega) | decide +kernel | (refine decide_eq_true ?_; simp (disch := omega) only [i64w]; omega)); conv => whnf)
          | ((with_reducible refine condm_pos ?_ ?_); (· assumption); conv => whnf)
          | ((with_reducible refine condm_neg ?_ ?_); (· assumption); conv => whnf)
          | ((with_reducible refine forceL_fv (by assumption) ?_); conv => whnf)
          | ((with_reducible refine forceL_rfv (by assumption) ?_); conv => whnf)
          | ((with_reducible refine forceNm_of ?_); conv => whnf)
          | ((with_reducible refine needm_of (fv_lenL (by assumption) (by assumption)) ?_); conv => whnf)
          | ((with_reducible refine optm_var (fv_strL (by assumption) (by assumption)) (fun s hs => ?_)); conv => whnf)
          | ((with_reducible refine forceA_of ?_); conv => whnf)
          | ((with_reducible refine forceL_pl (by assumption) ?_); conv => whnf)
          | ((with_reducible refine forceL_rpl (by assumption) ?_); conv => whnf)
          | (refine ⟨st, hsl, ld, ?_⟩; conv => whnf)
          | ((with_reducible refine needm_of ?_ ?_); (· first | (rw [hsl, hzl]; rfl) | (rw [hsl]; rfl) | (rw [hzl]; rfl)); conv => whnf)
          | ((with_reducible refine forceL_to (whole_of ?_) ?_); (· rw [hsl]; rfl); conv => whnf)
          | ((with_reducible refine forceL_to (store_all ?_) ?_); (· rw [hsl, hzl]); conv => whnf)
          | ((with_reducible refine optm_of g1 ?_); conv => whnf)
          | ((with_reducible refine optm_of g2 ?_); conv => whnf)
          | ((with_reducible refine optm_of g4 ?_); conv => whnf)
          | ((with_reducible refine optm_of g5 ?_); conv => whnf)
          | fail)
        have hnl : L.length ≤ (L ++ y).length := by rw [List.length_append]; omega
        have hlk : ∀ (j : Nat) (x : Fl), j < L.length → (L ++ y)[j]? = some x → ∃ k, ks[j]? = some k ∧ x.s = ⟨(num k).toArray⟩ := by
          intro j x hj hx
          rw [List.getElem?_append_left hj] at hx
          have h1 := congrArg (fun l => l[j]?) hks
          simp only [List.getElem?_map, hx, Option.map_some] at h1
          cases h2 : ks[j]? with
          | none => rw [h2] at h1; cases h1
          | some k => rw [h2] at h1; exact ⟨k, rfl, Option.some.inj h1⟩
        generalize hn : L.length = n at *
        have hsm : sent < 4294967296 := by omega
        clear hcap hks hL
        refine loopx_of (Inv1 ks sent n cap' cs mk) n ?_ ?_
        · refine Into.weak [0, 1] (F1 sent { data := #[] } 0) [.cells [.int .i64 1024, .slc 1 0 n cap'] 57 false, .cells cs 61 mk] ⟨0, { data := #[] }, Nat.zero_le _, rfl, fun j h => by omega, rfl, rfl⟩ ⟨rfl, rfl, rfl, rfl, trivial⟩ ⟨rfl, ren_pl hp _ _ _, trivial⟩ (by simp [nodupb, baseb, Ob.okb, frmOk, V.okb, A.okb, hp.2] <;> decide)
        · rintro m F H ⟨i, s, hi, rfl, hs, rfl, rfl⟩
          conv => whnf
          repeat' (first
            | rw [← hz7]
            | ((with_reducible refine regx_of ?_ ?_); (· decide +kernel); conv => whnf)
            | ((with_reducible refine growx_pre ?_ ?_); (· exact ⟨_, rfl⟩); conv => whnf)
            | ((with_reducible refine needm_of ?_ ?_); (· first | assumption | exact decide_eq_true (by omega) | decide +kernel | (refine decide_eq_true ?_; simp (disch := omega) only [i64w]; omega)); conv => whnf)
            | ((with_reducible refine condm_pos ?_ ?_); (· assumption); conv => whnf)
            | ((with_reducible refine condm_neg ?_ ?_); (· assumption); conv => whnf)
            | ((with_reducible refine forceL_fv (by assumption) ?_); conv => whnf)
            | ((with_reducible refine forceL_rfv (by assumption) ?_); conv => whnf)
            | ((with_reducible refine forceNm_of ?_); conv => whnf)
            | ((with_reducible refine needm_of (fv_lenL (by assumption) (by assumption)) ?_); conv => whnf)
            | ((with_reducible refine optm_var (fv_strL (by assumption) (by assumption)) (fun s hs => ?_)); conv => whnf)
            | ((with_reducible refine forceA_of ?_); conv => whnf)
            | ((with_reducible refine forceL_pl (by assumption) ?_); conv => whnf)
            | ((with_reducible refine forceL_rpl (by assumption) ?_); conv => whnf)
            | (refine ⟨st, hsl, ld, ?_⟩; conv => whnf)
            | ((with_reducible refine needm_of ?_ ?_); (· first | (rw [hsl, hzl]; rfl) | (rw [hsl]; rfl) | (rw [hzl]; rfl)); conv => whnf)
            | ((with_reducible refine forceL_to (whole_of ?_) ?_); (· rw [hsl]; rfl); conv => whnf)
            | ((with_reducible refine forceL_to (store_all ?_) ?_); (· rw [hsl, hzl]); conv => whnf)
            | ((with_reducible refine optm_of g1 ?_); conv => whnf)
            | ((with_reducible refine optm_of g2 ?_); conv => whnf)
            | ((with_reducible refine optm_of g4 ?_); conv => whnf)
            | ((with_reducible refine optm_of g5 ?_); conv => whnf)
            | fail)
          refine Go.Eng.Fn.frame [0, 1] (by rfl) (by exact ⟨rfl, ren_pl hp _ _ _, trivial⟩) (by simp [nodupb, V.okb, A.okb, Ob.okb, hp.2] <;> decide) (len14 1024 n cap' cs hp mk ?_)
          conv => whnf
          repeat' (first
            | rw [← hz7]
            | ((with_reducible refine regx_of ?_ ?_); (· decide +kernel); conv => whnf)
            | ((with_reducible refine growx_pre ?_ ?_); (· exact ⟨_, rfl⟩); conv => whnf)
            | ((with_reducible refine needm_of ?_ ?_); (· first | assumption | exact decide_eq_true (by omega) | decide +kernel | (refine decide_eq_true ?_; simp (disch := omega) only [i64w]; omega)); conv => whnf)
            | ((with_reducible refine condm_pos ?_ ?_); (· assumption); conv => whnf)
            | ((with_reducible refine condm_neg ?_ ?_); (· assumption); conv => whnf)
            | ((with_reducible refine forceL_fv (by assumption) ?_); conv => whnf)
            | ((with_reducible refine forceL_rfv (by assumption) ?_); conv => whnf)
            | ((with_reducible refine forceNm_of ?_); conv => whnf)
            | ((with_reducible refine needm_of (fv_lenL (by assumption) (by assumption)) ?_); conv => whnf)
            | ((with_reducible refine optm_var (fv_strL (by assumption) (by assumption)) (fun s hs => ?_)); conv => whnf)
            | ((with_reducible refine forceA_of ?_); conv => whnf)
            | ((with_reducible refine forceL_pl (by assumption) ?_); conv => whnf)
            | ((with_reducible refine forceL_rpl (by assumption) ?_); conv => whnf)
            | (refine ⟨st, hsl, ld, ?_⟩; conv => whnf)
            | ((with_reducible refine needm_of ?_ ?_); (· first | (rw [hsl, hzl]; rfl) | (rw [hsl]; rfl) | (rw [hzl]; rfl)); conv => whnf)
            | ((with_reducible refine forceL_to (whole_of ?_) ?_); (· rw [hsl]; rfl); conv => whnf)
            | ((with_reducible refine forceL_to (store_all ?_) ?_); (· rw [hsl, hzl]); conv => whnf)
            | ((with_reducible refine optm_of g1 ?_); conv => whnf)
            | ((with_reducible refine optm_of g2 ?_); conv => whnf)
            | ((with_reducible refine optm_of g4 ?_); conv => whnf)
            | ((with_reducible refine optm_of g5 ?_); conv => whnf)
            | fail)
          refine condm_of (fun h => ?_) (fun h => ?_)
          · have hin : i < n := by have := of_decide_eq_true h; omega
            conv => whnf
            repeat' (first
              | rw [← hz7]
              | ((with_reducible refine regx_of ?_ ?_); (· decide +kernel); conv => whnf)
              | ((with_reducible refine growx_pre ?_ ?_); (· exact ⟨_, rfl⟩); conv => whnf)
              | ((with_reducible refine needm_of ?_ ?_); (· first | assumption | exact decide_eq_true (by omega) | decide +kernel | (refine decide_eq_true ?_; simp (disch := omega) only [i64w]; omega)); conv => whnf)
              | ((with_reducible refine condm_pos ?_ ?_); (· assumption); conv => whnf)
              | ((with_reducible refine condm_neg ?_ ?_); (· assumption); conv => whnf)
              | ((with_reducible refine forceL_fv (by assumption) ?_); conv => whnf)
              | ((with_reducible refine forceL_rfv (by assumption) ?_); conv => whnf)
              | ((with_reducible refine forceNm_of ?_); conv => whnf)
              | ((with_reducible refine needm_of (fv_lenL (by assumption) (by assumption)) ?_); conv => whnf)
              | ((with_reducible refine optm_var (fv_strL (by assumption) (by assumption)) (fun s hs => ?_)); conv => whnf)
              | ((with_reducible refine forceA_of ?_); conv => whnf)
              | ((with_reducible refine forceL_pl (by assumption) ?_); conv => whnf)
              | ((with_reducible refine forceL_rpl (by assumption) ?_); conv => whnf)
              | (refine ⟨st, hsl, ld, ?_⟩; conv => whnf)
              | ((with_reducible refine needm_of ?_ ?_); (· first | (rw [hsl, hzl]; rfl) | (rw [hsl]; rfl) | (rw [hzl]; rfl)); conv => whnf)
              | ((with_reducible refine forceL_to (whole_of ?_) ?_); (· rw [hsl]; rfl); conv => whnf)
              | ((with_reducible refine forceL_to (store_all ?_) ?_); (· rw [hsl, hzl]); conv => whnf)
              | ((with_reducible refine optm_of g1 ?_); conv => whnf)
              | ((with_reducible refine optm_of g2 ?_); conv => whnf)
              | ((with_reducible refine optm_of g4 ?_); conv => whnf)
              | ((with_reducible refine optm_of g5 ?_); conv => whnf)
              | fail)
            refine Go.Eng.Fn.frame [0, 1] (by rfl) (by exact ⟨rfl, ren_pl hp _ _ _, trivial⟩) (by simp [nodupb, V.okb, A.okb, Ob.okb, hp.2] <;> decide) (look15 1024 i n cap' cs (L ++ y) hcs hnl mk (fun h => absurd ⟨by omega, by omega⟩ h) (fun x hx _ => ?_))
            obtain ⟨k, hk, hxs⟩ := hlk i x hin (by simpa using hx)
            have c1 : (((x.s.size : Nat) : Int) != 4) = false := by
              rw [hxs, show ByteArray.size ⟨(num k).toArray⟩ = (num k).length from rfl, num_length]; rfl
            have hw1 := wrapi (i := i) (by omega)
            conv => whnf
            repeat' (first
              | rw [← hz7]
              | ((with_reducible refine regx_of ?_ ?_); (· decide +kernel); conv => whnf)
              | ((with_reducible refine growx_pre ?_ ?_); (· exact ⟨_, rfl⟩); conv => whnf)
              | ((with_reducible refine needm_of ?_ ?_); (· first | assumption | exact decide_eq_true (by omega) | decide +kernel | (refine decide_eq_true ?_; simp (disch := omega) only [i64w]; omega)); conv => whnf)
              | ((with_reducible refine condm_pos ?_ ?_); (· assumption); conv => whnf)
              | ((with_reducible refine condm_neg ?_ ?_); (· assumption); conv => whnf)
              | ((with_reducible refine forceL_fv (by assumption) ?_); conv => whnf)
              | ((with_reducible refine forceL_rfv (by assumption) ?_); conv => whnf)
              | ((with_reducible refine forceNm_of ?_); conv => whnf)
              | ((with_reducible refine needm_of (fv_lenL (by assumption) (by assumption)) ?_); conv => whnf)
              | ((with_reducible refine optm_var (fv_strL (by assumption) (by assumption)) (fun s hs => ?_)); conv => whnf)
              | ((with_reducible refine forceA_of ?_); conv => whnf)
              | ((with_reducible refine forceL_pl (by assumption) ?_); conv => whnf)
              | ((with_reducible refine forceL_rpl (by assumption) ?_); conv => whnf)
              | (refine ⟨st, hsl, ld, ?_⟩; conv => whnf)
              | ((with_reducible refine needm_of ?_ ?_); (· first | (rw [hsl, hzl]; rfl) | (rw [hsl]; rfl) | (rw [hzl]; rfl)); conv => whnf)
              | ((with_reducible refine forceL_to (whole_of ?_) ?_); (· rw [hsl]; rfl); conv => whnf)
              | ((with_reducible refine forceL_to (store_all ?_) ?_); (· rw [hsl, hzl]); conv => whnf)
              | ((with_reducible refine optm_of g1 ?_); conv => whnf)
              | ((with_reducible refine optm_of g2 ?_); conv => whnf)
              | ((with_reducible refine optm_of g4 ?_); conv => whnf)
              | ((with_reducible refine optm_of g5 ?_); conv => whnf)
              | fail)
            refine condm_of (fun h0 => ?_) (fun h0 => ?_)
            · obtain ⟨j, rfl⟩ : ∃ j, i = j + 1 := ⟨i - 1, by have := of_decide_eq_true h0; omega⟩
              have hj : j < ks.length := by omega
              obtain ⟨k0, hk0⟩ : ∃ k0, ks[j]? = some k0 := ⟨_, List.getElem?_eq_getElem hj⟩
              have hs0 := hs j rfl k0 hk0
              have hlt : k0 < k := by
                obtain ⟨h1, rfl⟩ := List.getElem?_eq_some_iff.1 hk0
                obtain ⟨h2, rfl⟩ := List.getElem?_eq_some_iff.1 hk
                exact List.pairwise_iff_getElem.1 hkp j (j + 1) h1 h2 (by omega)
              have hkm : k < 4294967296 := by have := hkb k (List.mem_of_getElem? hk); omega
              have c2 : (Op.bytesLess x.s.data.toList s.data.toList || x.s.data.toList == s.data.toList) = false := by
                rw [hxs, hs0]; exact num_ord hlt hkm
              conv => whnf
              repeat' (first
                | rw [← hz7]
                | ((with_reducible refine regx_of ?_ ?_); (· decide +kernel); conv => whnf)
                | ((with_reducible refine growx_pre ?_ ?_); (· exact ⟨_, rfl⟩); conv => whnf)
                | ((with_reducible refine needm_of ?_ ?_); (· first | assumption | exact decide_eq_true (by omega) | decide +kernel | (refine decide_eq_true ?_; simp (disch := omega) only [i64w]; omega)); conv => whnf)
                | ((with_reducible refine condm_pos ?_ ?_); (· assumption); conv => whnf)
                | ((with_reducible refine condm_neg ?_ ?_); (· assumption); conv => whnf)
                | ((with_reducible refine forceL_fv (by assumption) ?_); conv => whnf)
                | ((with_reducible refine forceL_rfv (by assumption) ?_); conv => whnf)
                | ((with_reducible refine forceNm_of ?_); conv => whnf)
                | ((with_reducible refine needm_of (fv_lenL (by assumption) (by assumption)) ?_); conv => whnf)
                | ((with_reducible refine optm_var (fv_strL (by assumption) (by assumption)) (fun s hs => ?_)); conv => whnf)
                | ((with_reducible refine forceA_of ?_); conv => whnf)
                | ((with_reducible refine forceL_pl (by assumption) ?_); conv => whnf)
                | ((with_reducible refine forceL_rpl (by assumption) ?_); conv => whnf)
                | (refine ⟨st, hsl, ld, ?_⟩; conv => whnf)
                | ((with_reducible refine needm_of ?_ ?_); (· first | (rw [hsl, hzl]; rfl) | (rw [hsl]; rfl) | (rw [hzl]; rfl)); conv => whnf)
                | ((with_reducible refine forceL_to (whole_of ?_) ?_); (· rw [hsl]; rfl); conv => whnf)
                | ((with_reducible refine forceL_to (store_all ?_) ?_); (· rw [hsl, hzl]); conv => whnf)
                | ((with_reducible refine optm_of g1 ?_); conv => whnf)
                | ((with_reducible refine optm_of g2 ?_); conv => whnf)
                | ((with_reducible refine optm_of g4 ?_); conv => whnf)
                | ((with_reducible refine optm_of g5 ?_); conv => whnf)
                | fail)
              refine ⟨n - ((j + 1) + 1), by omega, Into.weak [0, 1] (F1 sent x.s _) [.cells [.int .i64 1024, .slc 1 0 n cap'] 57 false, .cells cs 61 mk] ?_ ⟨rfl, rfl, rfl, rfl, trivial⟩ ⟨rfl, ren_pl hp _ _ _, trivial⟩ (by simp [nodupb, baseb, Ob.okb, frmOk, V.okb, A.okb, hp.2] <;> decide)⟩
              exact ⟨(j + 1) + 1, x.s, by omega, rfl, fun j' e k' hk' => by (obtain rfl : j' = (j + 1) := by omega); rw [hk] at hk'; cases hk'; exact hxs, congrArg (F1 _ _) hw1, rfl⟩
            ·
              conv => whnf
              repeat' (first
                | rw [← hz7]
                | ((with_reducible refine regx_of ?_ ?_); (· decide +kernel); conv => whnf)
                | ((with_reducible refine growx_pre ?_ ?_); (· exact ⟨_, rfl⟩); conv => whnf)
                | ((with_reducible refine needm_of ?_ ?_); (· first | assumption | exact decide_eq_true (by omega) | decide +kernel | (refine decide_eq_true ?_; simp (disch := omega) only [i64w]; omega)); conv => whnf)
                | ((with_reducible refine condm_pos ?_ ?_); (· assumption); conv => whnf)
                | ((with_reducible refine condm_neg ?_ ?_); (· assumption); conv => whnf)
                | ((with_reducible refine forceL_fv (by assumption) ?_); conv => whnf)
                | ((with_reducible refine forceL_rfv (by assumption) ?_); conv => whnf)
                | ((with_reducible refine forceNm_of ?_); conv => whnf)
                | ((with_reducible refine needm_of (fv_lenL (by assumption) (by assumption)) ?_); conv => whnf)
                | ((with_reducible refine optm_var (fv_strL (by assumption) (by assumption)) (fun s hs => ?_)); conv => whnf)
                | ((with_reducible refine forceA_of ?_); conv => whnf)
                | ((with_reducible refine forceL_pl (by assumption) ?_); conv => whnf)
                | ((with_reducible refine forceL_rpl (by assumption) ?_); conv => whnf)
                | (refine ⟨st, hsl, ld, ?_⟩; conv => whnf)
                | ((with_reducible refine needm_of ?_ ?_); (· first | (rw [hsl, hzl]; rfl) | (rw [hsl]; rfl) | (rw [hzl]; rfl)); conv => whnf)
                | ((with_reducible refine forceL_to (whole_of ?_) ?_); (· rw [hsl]; rfl); conv => whnf)
                | ((with_reducible refine forceL_to (store_all ?_) ?_); (· rw [hsl, hzl]); conv => whnf)
                | ((with_reducible refine optm_of g1 ?_); conv => whnf)
                | ((with_reducible refine optm_of g2 ?_); conv => whnf)
                | ((with_reducible refine optm_of g4 ?_); conv => whnf)
                | ((with_reducible refine optm_of g5 ?_); conv => whnf)
                | fail)
              refine ⟨n - (i + 1), by omega, Into.weak [0, 1] (F1 sent x.s _) [.cells [.int .i64 1024, .slc 1 0 n cap'] 57 false, .cells cs 61 mk] ?_ ⟨rfl, rfl, rfl, rfl, trivial⟩ ⟨rfl, ren_pl hp _ _ _, trivial⟩ (by simp [nodupb, baseb, Ob.okb, frmOk, V.okb, A.okb, hp.2] <;> decide)⟩
              exact ⟨i + 1, x.s, by omega, rfl, fun j' e k' hk' => by (obtain rfl : j' = i := by omega); rw [hk] at hk'; cases hk'; exact hxs, congrArg (F1 _ _) hw1, rfl⟩
          ·
            conv => whnf
            repeat' (first
              | rw [← hz7]
              | ((with_reducible refine regx_of ?_ ?_); (· decide +kernel); conv => whnf)
              | ((with_reducible refine growx_pre ?_ ?_); (· exact ⟨_, rfl⟩); conv => whnf)
              | ((with_reducible refine needm_of ?_ ?_); (· first | assumption | exact decide_eq_true (by omega) | decide +kernel | (refine decide_eq_true ?_; simp (disch := omega) only [i64w]; omega)); conv => whnf)
              | ((with_reducible refine condm_pos ?_ ?_); (· assumption); conv => whnf)
              | ((with_reducible refine condm_neg ?_ ?_); (· assumption); conv => whnf)
              | ((with_reducible refine forceL_fv (by assumption) ?_); conv => whnf)
              | ((with_reducible refine forceL_rfv (by assumption) ?_); conv => whnf)
              | ((with_reducible refine forceNm_of ?_); conv => whnf)
              | ((with_reducible refine needm_of (fv_lenL (by assumption) (by assumption)) ?_); conv => whnf)
              | ((with_reducible refine optm_var (fv_strL (by assumption) (by assumption)) (fun s hs => ?_)); conv => whnf)
              | ((with_reducible refine forceA_of ?_); conv => whnf)
              | ((with_reducible refine forceL_pl (by assumption) ?_); conv => whnf)
              | ((with_reducible refine forceL_rpl (by assumption) ?_); conv => whnf)
              | (refine ⟨st, hsl, ld, ?_⟩; conv => whnf)
              | ((with_reducible refine needm_of ?_ ?_); (· first | (rw [hsl, hzl]; rfl) | (rw [hsl]; rfl) | (rw [hzl]; rfl)); conv => whnf)
              | ((with_reducible refine forceL_to (whole_of ?_) ?_); (· rw [hsl]; rfl); conv => whnf)
              | ((with_reducible refine forceL_to (store_all ?_) ?_); (· rw [hsl, hzl]); conv => whnf)
              | ((with_reducible refine optm_of g1 ?_); conv => whnf)
              | ((with_reducible refine optm_of g2 ?_); conv => whnf)
              | ((with_reducible refine optm_of g4 ?_); conv => whnf)
              | ((with_reducible refine optm_of g5 ?_); conv => whnf)
              | fail)
            refine Go.Eng.Fn.frame [0, 1] (by rfl) (by exact ⟨rfl, ren_pl hp _ _ _, trivial⟩) (by simp [nodupb, V.okb, A.okb, Ob.okb, hp.2] <;> decide) (len14 1024 n cap' cs hp mk ?_)
            conv => whnf
            repeat' (first
              | rw [← hz7]
              | ((with_reducible refine regx_of ?_ ?_); (· decide +kernel); conv => whnf)
              | ((with_reducible refine growx_pre ?_ ?_); (· exact ⟨_, rfl⟩); conv => whnf)
              | ((with_reducible refine needm_of ?_ ?_); (· first | assumption | exact decide_eq_true (by omega) | decide +kernel | (refine decide_eq_true ?_; simp (disch := omega) only [i64w]; omega)); conv => whnf)
              | ((with_reducible refine condm_pos ?_ ?_); (· assumption); conv => whnf)
              | ((with_reducible refine condm_neg ?_ ?_); (· assumption); conv => whnf)
              | ((with_reducible refine forceL_fv (by assumption) ?_); conv => whnf)
              | ((with_reducible refine forceL_rfv (by assumption) ?_); conv => whnf)
              | ((with_reducible refine forceNm_of ?_); conv => whnf)
              | ((with_reducible refine needm_of (fv_lenL (by assumption) (by assumption)) ?_); conv => whnf)
              | ((with_reducible refine optm_var (fv_strL (by assumption) (by assumption)) (fun s hs => ?_)); conv => whnf)
              | ((with_reducible refine forceA_of ?_); conv => whnf)
              | ((with_reducible refine forceL_pl (by assumption) ?_); conv => whnf)
              | ((with_reducible refine forceL_rpl (by assumption) ?_); conv => whnf)
              | (refine ⟨st, hsl, ld, ?_⟩; conv => whnf)
              | ((with_reducible refine needm_of ?_ ?_); (· first | (rw [hsl, hzl]; rfl) | (rw [hsl]; rfl) | (rw [hzl]; rfl)); conv => whnf)
              | ((with_reducible refine forceL_to (whole_of ?_) ?_); (· rw [hsl]; rfl); conv => whnf)
              | ((with_reducible refine forceL_to (store_all ?_) ?_); (· rw [hsl, hzl]); conv => whnf)
              | ((with_reducible refine optm_of g1 ?_); conv => whnf)
              | ((with_reducible refine optm_of g2 ?_); conv => whnf)
              | ((with_reducible refine optm_of g4 ?_); conv => whnf)
              | ((with_reducible refine optm_of g5 ?_); conv => whnf)
              | fail)
            exact congrArg (fun b => V.a (A.bool b)) (decide_eq_true (by omega))
set_option maxHeartbeats 400000 in
theorem order_nil : Go.Eng.Fn Try.prog ro 3 [.a .nils] [] (fun v _ => v = .a (.bool true)) := by
  refine Go.Eng.Fn.of_code h3o Try.func3 rfl (Nat.le_of_ble_eq_true rfl) ?_
  conv => whnf
  refine Go.Eng.Fn.frame [] (by rfl) (by exact trivial) (by rfl) (works7 ?_)
  conv => whnf
  refine Go.Eng.Fn.frame [] (by rfl) (by exact trivial) (by rfl) (new8 1024 (by decide) (by decide) ?_)
  conv => whnf
  refine loopx_iter 1 ?_
  conv => whnf
  refine loopx_iter 1 ?_
  conv => whnf
  refine Go.Eng.Fn.frame [0] (by rfl) (by exact ⟨rfl, trivial⟩) (by rfl) (len14n 1024 ?_)
  conv => whnf
  refine Go.Eng.Fn.frame [0] (by rfl) (by exact ⟨rfl, trivial⟩) (by rfl) (len14n 1024 ?_)
  conv => whnf
  rfl
theorem order3 (W : World) (y : A) (len cap : Nat) (G : Nat → List A) (hG : IsSl W 7 KO y len cap G) (hb : cap + 1 ≤ 1048576) :
    Go.Eng.Fn Try.prog (roOf W) 3 [.a y] [] (fun v _ => v = .a (.bool true)) := by
  rcases id hG with ⟨rfl, _⟩ | ⟨p, rfl, h1, h2, _⟩
  · exact order_nil
  · exact order W p len cap G hG (by omega)
end
end Go.Proofs.Ytkggpkgnkppceaa.LK
