import Derived.Test.YtkggpkgnkppceaaMH
import Derived.Test.YtkggpkgnkppceaaEngI
namespace Go.Proofs.Ytkggpkgnkppceaa.LK
open Go.Eng
set_option maxRecDepth 100000
def KO : List Sc := [.int .i64, .int .i64, .int .i64, .int .i64, .int .u8, .int .u8, .str]
theorem u8_of {z : Int} (h : IntKind.u8.min ≤ z ∧ z ≤ IntKind.u8.max) : ∃ f : UInt8, z = (f.toNat : Int) := by
  have h1 : (0 : Int) ≤ z ∧ z ≤ 255 := h
  refine ⟨UInt8.ofNat z.toNat, ?_⟩
  rw [UInt8.toNat_ofNat']
  omega
theorem s24 : Try.prog.types[24].size = 1 := rfl
theorem s41 : Try.prog.types[41].size = 1 := rfl
theorem b24 : Try.prog.types[24].bytes = 8 := rfl
theorem b41 : Try.prog.types[41].bytes = 8 := rfl
def nps (k : Nat) : List A := List.replicate k .nilp
theorem nps_len (k : Nat) : (nps k).length = k := by unfold nps; simp
theorem Pl.np {l : List A} {k : Nat} (h : l = nps k) : Pl l := by
  subst h
  unfold nps
  exact ⟨fun δ => by rw [List.map_replicate]; rfl, fun n => by simp [A.okb]⟩
theorem np_new {a b : Nat} (h : a * 1 = b) : repl [A.nilp] (a * Try.prog.types[24].size) = nps b := by
  rw [s24, h]; rfl
theorem np_new' {a b : Nat} (h : a * 1 = b) : repl [A.nilp] (a * Try.prog.types[41].size) = nps b := by
  rw [s41, h]; rfl
section
set_option maxHeartbeats 4000000 in
theorem plays (W : World) (p : Addr) (len cap : Nat) (G : Nat → List A) (hG : IsSl W 7 KO (.rslc p len cap) len cap G) (hlen : len ≤ 9223372036854775807) (room : Nat) (hr1 : 1 ≤ room) (hr2 : room ≤ 1024) :
    Go.Eng.Fn Try.prog (roOf W) 5 [.a (.int .i64 (room : Int)), .a (.rslc p len cap)] [] (fun v _ => v = .a (.bool true)) := by
  refine Go.Eng.Fn.of_code MT.h5 Try.func5 rfl (Nat.le_of_ble_eq_true rfl) ?_
  conv => whnf
  repeat' (first
    | ((with_reducible refine regx_of ?_ ?_); (· decide +kernel); conv => whnf)
    | ((with_reducible refine growx_pre ?_ ?_); (· exact ⟨_, rfl⟩); conv => whnf)
    | ((with_reducible refine needm_of ?_ ?_); (· first | assumption | exact decide_eq_true (by omega) | exact mkOK_of (by decide) | decide +kernel | (refine decide_eq_true ?_; simp (disch := omega) only [i64w]; omega)); conv => whnf)
    | ((with_reducible refine condm_pos ?_ ?_); (· assumption); conv => whnf)
    | ((with_reducible refine condm_neg ?_ ?_); (· assumption); conv => whnf)
    | ((with_reducible refine forceL_fv (by assumption) ?_); conv => whnf)
    | ((with_reducible refine forceL_rfv (by assumption) ?_); conv => whnf)
    | ((with_reducible refine forceNm_of ?_); conv => whnf)
    | ((with_reducible refine needm_of (fv_lenL (by assumption) (by assumption)) ?_); conv => whnf)
    | ((with_reducible refine optm_var (fv_strL (by assumption) (by assumption)) (fun s hs => ?_)); conv => whnf)
    | ((with_reducible refine forceA_of ?_); conv => whnf)
    | ((with_reducible refine forceL_pl (by assumption) ?_); conv => whnf)
    | ((with_reducible refine forceL_rpl (by assumption) ?_); conv => whnf)
    | fail)
  refine loopx_of (fun q F H => (q = 2 ∧ F = [(0, .a (.int .i64 (room : Int))), (1, .a (.rslc p len cap)), (5, .a .nils), (6, .a .nils), (7, .a (.int .i64 0))] ∧ H = [])
    ∨ (q = 1 ∧ ∃ (c c' : Nat) (ns ms : List A), 1 ≤ c ∧ 1 ≤ c' ∧ ns = nps (c - 1) ∧ ms = nps (c' - 1) ∧ F = [(0, .a (.int .i64 (room : Int))), (1, .a (.rslc p len cap)), (5, .a (.slc 4 0 1 c)), (6, .a (.slc 5 0 1 c')), (7, .a (.int .i64 1))] ∧ H = [.cells [.int .i64 room, .slc 1 0 0 0] 57 false, .cells [] 61 false, .cells [.int .i64 room, .slc 3 0 0 0] 47 false, .cells [] 69 false, .cells (.ptr 0 0 :: ns) 24 false, .cells (.ptr 2 0 :: ms) 41 false])
    ∨ (q = 0 ∧ ∃ (c c' : Nat) (ns ms : List A), Pl ns ∧ Pl ms ∧ F = [(1, .a (.rslc p len cap)), (5, .a (.slc 8 0 2 c)), (6, .a (.slc 9 0 2 c')), (7, .a (.int .i64 2))] ∧ H = [.cells [.int .i64 room, .slc 1 0 0 0] 57 false, .cells [] 61 false, .cells [.int .i64 room, .slc 3 0 0 0] 47 false, .cells [] 69 false, .cells [.int .i64 room, .slc 5 0 0 0] 57 false, .cells [] 61 false, .cells [.int .i64 room, .slc 7 0 0 0] 47 false, .cells [] 69 false, .cells (.ptr 0 0 :: .ptr 4 0 :: ns) 24 false, .cells (.ptr 2 0 :: .ptr 6 0 :: ms) 41 false])) 2 ?_ ?_
  · exact Into.weak [] _ [] (.inl ⟨rfl, rfl, rfl⟩) ⟨rfl, rfl, rfl, rfl, rfl, trivial⟩ trivial rfl
  · rintro q F H (⟨rfl, rfl, rfl⟩ | ⟨rfl, c, c', ns, ms, hc, hc', hns, hms, rfl, rfl⟩ | ⟨rfl, c, c', ns, ms, hns, hms, rfl, rfl⟩)
    ·
      conv => whnf
      repeat' (first
        | ((with_reducible refine regx_of ?_ ?_); (· decide +kernel); conv => whnf)
        | ((with_reducible refine growx_pre ?_ ?_); (· exact ⟨_, rfl⟩); conv => whnf)
        | ((with_reducible refine needm_of ?_ ?_); (· first | assumption | exact decide_eq_true (by omega) | exact mkOK_of (by decide) | decide +kernel | (refine decide_eq_true ?_; simp (disch := omega) only [i64w]; omega)); conv => whnf)
        | ((with_reducible refine condm_pos ?_ ?_); (· assumption); conv => whnf)
        | ((with_reducible refine condm_neg ?_ ?_); (· assumption); conv => whnf)
        | ((with_reducible refine forceL_fv (by assumption) ?_); conv => whnf)
        | ((with_reducible refine forceL_rfv (by assumption) ?_); conv => whnf)
        | ((with_reducible refine forceNm_of ?_); conv => whnf)
        | ((with_reducible refine needm_of (fv_lenL (by assumption) (by assumption)) ?_); conv => whnf)
        | ((with_reducible refine optm_var (fv_strL (by assumption) (by assumption)) (fun s hs => ?_)); conv => whnf)
        | ((with_reducible refine forceA_of ?_); conv => whnf)
        | ((with_reducible refine forceL_pl (by assumption) ?_); conv => whnf)
        | ((with_reducible refine forceL_rpl (by assumption) ?_); conv => whnf)
        | fail)
      refine Go.Eng.Fn.frame [] (by rfl) (by exact trivial) (by rfl) (new8g room hr1 hr2 ?_)
      conv => whnf
      repeat' (first
        | ((with_reducible refine regx_of ?_ ?_); (· decide +kernel); conv => whnf)
        | ((with_reducible refine growx_pre ?_ ?_); (· exact ⟨_, rfl⟩); conv => whnf)
        | ((with_reducible refine needm_of ?_ ?_); (· first | assumption | exact decide_eq_true (by omega) | exact mkOK_of (by decide) | decide +kernel | (refine decide_eq_true ?_; simp (disch := omega) only [i64w]; omega)); conv => whnf)
        | ((with_reducible refine condm_pos ?_ ?_); (· assumption); conv => whnf)
        | ((with_reducible refine condm_neg ?_ ?_); (· assumption); conv => whnf)
        | ((with_reducible refine forceL_fv (by assumption) ?_); conv => whnf)
        | ((with_reducible refine forceL_rfv (by assumption) ?_); conv => whnf)
        | ((with_reducible refine forceNm_of ?_); conv => whnf)
        | ((with_reducible refine needm_of (fv_lenL (by assumption) (by assumption)) ?_); conv => whnf)
        | ((with_reducible refine optm_var (fv_strL (by assumption) (by assumption)) (fun s hs => ?_)); conv => whnf)
        | ((with_reducible refine forceA_of ?_); conv => whnf)
        | ((with_reducible refine forceL_pl (by assumption) ?_); conv => whnf)
        | ((with_reducible refine forceL_rpl (by assumption) ?_); conv => whnf)
        | fail)
      refine Go.Eng.Fn.frame [] (by rfl) (by exact trivial) (by rfl) (new18g room hr1 hr2 ?_)
      conv => whnf
      repeat' (first
        | ((with_reducible refine regx_of ?_ ?_); (· decide +kernel); conv => whnf)
        | ((with_reducible refine growx_pre ?_ ?_); (· exact ⟨_, rfl⟩); conv => whnf)
        | ((with_reducible refine needm_of ?_ ?_); (· first | assumption | exact decide_eq_true (by omega) | exact mkOK_of (by decide) | decide +kernel | (refine decide_eq_true ?_; simp (disch := omega) only [i64w]; omega)); conv => whnf)
        | ((with_reducible refine condm_pos ?_ ?_); (· assumption); conv => whnf)
        | ((with_reducible refine condm_neg ?_ ?_); (· assumption); conv => whnf)
        | ((with_reducible refine forceL_fv (by assumption) ?_); conv => whnf)
        | ((with_reducible refine forceL_rfv (by assumption) ?_); conv => whnf)
        | ((with_reducible refine forceNm_of ?_); conv => whnf)
        | ((with_reducible refine needm_of (fv_lenL (by assumption) (by assumption)) ?_); conv => whnf)
        | ((with_reducible refine optm_var (fv_strL (by assumption) (by assumption)) (fun s hs => ?_)); conv => whnf)
        | ((with_reducible refine forceA_of ?_); conv => whnf)
        | ((with_reducible refine forceL_pl (by assumption) ?_); conv => whnf)
        | ((with_reducible refine forceL_rpl (by assumption) ?_); conv => whnf)
        | fail)
      intro c1 hc1
      conv => whnf
      repeat' (first
        | ((with_reducible refine regx_of ?_ ?_); (· decide +kernel); conv => whnf)
        | ((with_reducible refine growx_pre ?_ ?_); (· exact ⟨_, rfl⟩); conv => whnf)
        | ((with_reducible refine needm_of ?_ ?_); (· first | assumption | exact decide_eq_true (by omega) | exact mkOK_of (by decide) | decide +kernel | (refine decide_eq_true ?_; simp (disch := omega) only [i64w]; omega)); conv => whnf)
        | ((with_reducible refine condm_pos ?_ ?_); (· assumption); conv => whnf)
        | ((with_reducible refine condm_neg ?_ ?_); (· assumption); conv => whnf)
        | ((with_reducible refine forceL_fv (by assumption) ?_); conv => whnf)
        | ((with_reducible refine forceL_rfv (by assumption) ?_); conv => whnf)
        | ((with_reducible refine forceNm_of ?_); conv => whnf)
        | ((with_reducible refine needm_of (fv_lenL (by assumption) (by assumption)) ?_); conv => whnf)
        | ((with_reducible refine optm_var (fv_strL (by assumption) (by assumption)) (fun s hs => ?_)); conv => whnf)
        | ((with_reducible refine forceA_of ?_); conv => whnf)
        | ((with_reducible refine forceL_pl (by assumption) ?_); conv => whnf)
        | ((with_reducible refine forceL_rpl (by assumption) ?_); conv => whnf)
        | fail)
      refine forceL_var (l' := nps (c1 - 1)) (np_new (Nat.mul_one _)) (fun ns hns => ?_)
      have pn := Pl.np hns
      conv => whnf
      repeat' (first
        | ((with_reducible refine regx_of ?_ ?_); (· decide +kernel); conv => whnf)
        | ((with_reducible refine growx_pre ?_ ?_); (· exact ⟨_, rfl⟩); conv => whnf)
        | ((with_reducible refine needm_of ?_ ?_); (· first | assumption | exact decide_eq_true (by omega) | exact mkOK_of (by decide) | decide +kernel | (refine decide_eq_true ?_; simp (disch := omega) only [i64w]; omega)); conv => whnf)
        | ((with_reducible refine condm_pos ?_ ?_); (· assumption); conv => whnf)
        | ((with_reducible refine condm_neg ?_ ?_); (· assumption); conv => whnf)
        | ((with_reducible refine forceL_fv (by assumption) ?_); conv => whnf)
        | ((with_reducible refine forceL_rfv (by assumption) ?_); conv => whnf)
        | ((with_reducible refine forceNm_of ?_); conv => whnf)
        | ((with_reducible refine needm_of (fv_lenL (by assumption) (by assumption)) ?_); conv => whnf)
        | ((with_reducible refine optm_var (fv_strL (by assumption) (by assumption)) (fun s hs => ?_)); conv => whnf)
        | ((with_reducible refine forceA_of ?_); conv => whnf)
        | ((with_reducible refine forceL_pl (by assumption) ?_); conv => whnf)
        | ((with_reducible refine forceL_rpl (by assumption) ?_); conv => whnf)
        | fail)
      intro c2 hc2
      conv => whnf
      repeat' (first
        | ((with_reducible refine regx_of ?_ ?_); (· decide +kernel); conv => whnf)
        | ((with_reducible refine growx_pre ?_ ?_); (· exact ⟨_, rfl⟩); conv => whnf)
        | ((with_reducible refine needm_of ?_ ?_); (· first | assumption | exact decide_eq_true (by omega) | exact mkOK_of (by decide) | decide +kernel | (refine decide_eq_true ?_; simp (disch := omega) only [i64w]; omega)); conv => whnf)
        | ((with_reducible refine condm_pos ?_ ?_); (· assumption); conv => whnf)
        | ((with_reducible refine condm_neg ?_ ?_); (· assumption); conv => whnf)
        | ((with_reducible refine forceL_fv (by assumption) ?_); conv => whnf)
        | ((with_reducible refine forceL_rfv (by assumption) ?_); conv => whnf)
        | ((with_reducible refine forceNm_of ?_); conv => whnf)
        | ((with_reducible refine needm_of (fv_lenL (by assumption) (by assumption)) ?_); conv => whnf)
        | ((with_reducible refine optm_var (fv_strL (by assumption) (by assumption)) (fun s hs => ?_)); conv => whnf)
        | ((with_reducible refine forceA_of ?_); conv => whnf)
        | ((with_reducible refine forceL_pl (by assumption) ?_); conv => whnf)
        | ((with_reducible refine forceL_rpl (by assumption) ?_); conv => whnf)
        | fail)
      refine forceL_var (l' := nps (c2 - 1)) (np_new' (Nat.mul_one _)) (fun ms hms => ?_)
      have pm := Pl.np hms
      conv => whnf
      repeat' (first
        | ((with_reducible refine regx_of ?_ ?_); (· decide +kernel); conv => whnf)
        | ((with_reducible refine growx_pre ?_ ?_); (· exact ⟨_, rfl⟩); conv => whnf)
        | ((with_reducible refine needm_of ?_ ?_); (· first | assumption | exact decide_eq_true (by omega) | exact mkOK_of (by decide) | decide +kernel | (refine decide_eq_true ?_; simp (disch := omega) only [i64w]; omega)); conv => whnf)
        | ((with_reducible refine condm_pos ?_ ?_); (· assumption); conv => whnf)
        | ((with_reducible refine condm_neg ?_ ?_); (· assumption); conv => whnf)
        | ((with_reducible refine forceL_fv (by assumption) ?_); conv => whnf)
        | ((with_reducible refine forceL_rfv (by assumption) ?_); conv => whnf)
        | ((with_reducible refine forceNm_of ?_); conv => whnf)
        | ((with_reducible refine needm_of (fv_lenL (by assumption) (by assumption)) ?_); conv => whnf)
        | ((with_reducible refine optm_var (fv_strL (by assumption) (by assumption)) (fun s hs => ?_)); conv => whnf)
        | ((with_reducible refine forceA_of ?_); conv => whnf)
        | ((with_reducible refine forceL_pl (by assumption) ?_); conv => whnf)
        | ((with_reducible refine forceL_rpl (by assumption) ?_); conv => whnf)
        | fail)
      exact ⟨1, by decide, Into.weak [0, 1, 2, 3, 5, 7] [(0, .a (.int .i64 (room : Int))), (1, .a (.rslc p len cap)), (5, .a (.slc 4 0 1 c1)), (6, .a (.slc 5 0 1 c2)), (7, .a (.int .i64 1))] [.cells [.int .i64 room, .slc 1 0 0 0] 57 false, .cells [] 61 false, .cells [.int .i64 room, .slc 3 0 0 0] 47 false, .cells [] 69 false, .cells (.ptr 0 0 :: ns) 24 false, .cells (.ptr 2 0 :: ms) 41 false] (.inr (.inl ⟨rfl, c1, c2, ns, ms, by omega, by omega, hns, hms, rfl, rfl⟩)) ⟨rfl, rfl, rfl, rfl, rfl, trivial⟩ ⟨rfl, rfl, rfl, rfl, congrArg (fun l => some (Ob.cells (.ptr 0 0 :: l) 24 false)) (pn.1 _).symm, congrArg (fun l => some (Ob.cells (.ptr 2 0 :: l) 41 false)) (pm.1 _).symm, trivial⟩ (by simp [nodupb, baseb, Ob.okb, frmOk, V.okb, A.okb, pn.2, pm.2] <;> decide)⟩
    · have pn := Pl.np hns
      have pm := Pl.np hms
      conv => whnf
      repeat' (first
        | ((with_reducible refine regx_of ?_ ?_); (· decide +kernel); conv => whnf)
        | ((with_reducible refine growx_pre ?_ ?_); (· exact ⟨_, rfl⟩); conv => whnf)
        | ((with_reducible refine needm_of ?_ ?_); (· first | assumption | exact decide_eq_true (by omega) | exact mkOK_of (by decide) | decide +kernel | (refine decide_eq_true ?_; simp (disch := omega) only [i64w]; omega)); conv => whnf)
        | ((with_reducible refine condm_pos ?_ ?_); (· assumption); conv => whnf)
        | ((with_reducible refine condm_neg ?_ ?_); (· assumption); conv => whnf)
        | ((with_reducible refine forceL_fv (by assumption) ?_); conv => whnf)
        | ((with_reducible refine forceL_rfv (by assumption) ?_); conv => whnf)
        | ((with_reducible refine forceNm_of ?_); conv => whnf)
        | ((with_reducible refine needm_of (fv_lenL (by assumption) (by assumption)) ?_); conv => whnf)
        | ((with_reducible refine optm_var (fv_strL (by assumption) (by assumption)) (fun s hs => ?_)); conv => whnf)
        | ((with_reducible refine forceA_of ?_); conv => whnf)
        | ((with_reducible refine forceL_pl (by assumption) ?_); conv => whnf)
        | ((with_reducible refine forceL_rpl (by assumption) ?_); conv => whnf)
        | fail)
      refine Go.Eng.Fn.frame [] (by rfl) (by exact trivial) (by rfl) (new8g room hr1 hr2 ?_)
      conv => whnf
      repeat' (first
        | ((with_reducible refine regx_of ?_ ?_); (· decide +kernel); conv => whnf)
        | ((with_reducible refine growx_pre ?_ ?_); (· exact ⟨_, rfl⟩); conv => whnf)
        | ((with_reducible refine needm_of ?_ ?_); (· first | assumption | exact decide_eq_true (by omega) | exact mkOK_of (by decide) | decide +kernel | (refine decide_eq_true ?_; simp (disch := omega) only [i64w]; omega)); conv => whnf)
        | ((with_reducible refine condm_pos ?_ ?_); (· assumption); conv => whnf)
        | ((with_reducible refine condm_neg ?_ ?_); (· assumption); conv => whnf)
        | ((with_reducible refine forceL_fv (by assumption) ?_); conv => whnf)
        | ((with_reducible refine forceL_rfv (by assumption) ?_); conv => whnf)
        | ((with_reducible refine forceNm_of ?_); conv => whnf)
        | ((with_reducible refine needm_of (fv_lenL (by assumption) (by assumption)) ?_); conv => whnf)
        | ((with_reducible refine optm_var (fv_strL (by assumption) (by assumption)) (fun s hs => ?_)); conv => whnf)
        | ((with_reducible refine forceA_of ?_); conv => whnf)
        | ((with_reducible refine forceL_pl (by assumption) ?_); conv => whnf)
        | ((with_reducible refine forceL_rpl (by assumption) ?_); conv => whnf)
        | fail)
      refine Go.Eng.Fn.frame [] (by rfl) (by exact trivial) (by rfl) (new18g room hr1 hr2 ?_)
      conv => whnf
      repeat' (first
        | ((with_reducible refine regx_of ?_ ?_); (· decide +kernel); conv => whnf)
        | ((with_reducible refine growx_pre ?_ ?_); (· exact ⟨_, rfl⟩); conv => whnf)
        | ((with_reducible refine needm_of ?_ ?_); (· first | assumption | exact decide_eq_true (by omega) | exact mkOK_of (by decide) | decide +kernel | (refine decide_eq_true ?_; simp (disch := omega) only [i64w]; omega)); conv => whnf)
        | ((with_reducible refine condm_pos ?_ ?_); (· assumption); conv => whnf)
        | ((with_reducible refine condm_neg ?_ ?_); (· assumption); conv => whnf)
        | ((with_reducible refine forceL_fv (by assumption) ?_); conv => whnf)
        | ((with_reducible refine forceL_rfv (by assumption) ?_); conv => whnf)
        | ((with_reducible refine forceNm_of ?_); conv => whnf)
        | ((with_reducible refine needm_of (fv_lenL (by assumption) (by assumption)) ?_); conv => whnf)
        | ((with_reducible refine optm_var (fv_strL (by assumption) (by assumption)) (fun s hs => ?_)); conv => whnf)
        | ((with_reducible refine forceA_of ?_); conv => whnf)
        | ((with_reducible refine forceL_pl (by assumption) ?_); conv => whnf)
        | ((with_reducible refine forceL_rpl (by assumption) ?_); conv => whnf)
        | fail)
      refine condm_of (fun h => ?_) (fun h => ?_)
      · have h' := of_decide_eq_true h
        obtain ⟨k1, rfl⟩ : ∃ k, c = k + 2 := ⟨c - 2, by omega⟩
        obtain ⟨nt, hnt⟩ : ∃ l, l = nps k1 := ⟨_, rfl⟩
        have pnt := Pl.np hnt
        obtain rfl : ns = .nilp :: nt := by rw [hns, hnt]; rfl
        conv => whnf
        repeat' (first
          | ((with_reducible refine regx_of ?_ ?_); (· decide +kernel); conv => whnf)
          | ((with_reducible refine growx_pre ?_ ?_); (· exact ⟨_, rfl⟩); conv => whnf)
          | ((with_reducible refine needm_of ?_ ?_); (· first | assumption | exact decide_eq_true (by omega) | exact mkOK_of (by decide) | decide +kernel | (refine decide_eq_true ?_; simp (disch := omega) only [i64w]; omega)); conv => whnf)
          | ((with_reducible refine condm_pos ?_ ?_); (· assumption); conv => whnf)
          | ((with_reducible refine condm_neg ?_ ?_); (· assumption); conv => whnf)
          | ((with_reducible refine forceL_fv (by assumption) ?_); conv => whnf)
          | ((with_reducible refine forceL_rfv (by assumption) ?_); conv => whnf)
          | ((with_reducible refine forceNm_of ?_); conv => whnf)
          | ((with_reducible refine needm_of (fv_lenL (by assumption) (by assumption)) ?_); conv => whnf)
          | ((with_reducible refine optm_var (fv_strL (by assumption) (by assumption)) (fun s hs => ?_)); conv => whnf)
          | ((with_reducible refine forceA_of ?_); conv => whnf)
          | ((with_reducible refine forceL_pl (by assumption) ?_); conv => whnf)
          | ((with_reducible refine forceL_rpl (by assumption) ?_); conv => whnf)
          | fail)
        refine needm_of (decide_eq_true (by show 0 + 1 * 1 + 1 ≤ nt.length + 1 + 1; omega)) ?_
        conv => whnf
        repeat' (first
          | ((with_reducible refine regx_of ?_ ?_); (· decide +kernel); conv => whnf)
          | ((with_reducible refine growx_pre ?_ ?_); (· exact ⟨_, rfl⟩); conv => whnf)
          | ((with_reducible refine needm_of ?_ ?_); (· first | assumption | exact decide_eq_true (by omega) | exact mkOK_of (by decide) | decide +kernel | (refine decide_eq_true ?_; simp (disch := omega) only [i64w]; omega)); conv => whnf)
          | ((with_reducible refine condm_pos ?_ ?_); (· assumption); conv => whnf)
          | ((with_reducible refine condm_neg ?_ ?_); (· assumption); conv => whnf)
          | ((with_reducible refine forceL_fv (by assumption) ?_); conv => whnf)
          | ((with_reducible refine forceL_rfv (by assumption) ?_); conv => whnf)
          | ((with_reducible refine forceNm_of ?_); conv => whnf)
          | ((with_reducible refine needm_of (fv_lenL (by assumption) (by assumption)) ?_); conv => whnf)
          | ((with_reducible refine optm_var (fv_strL (by assumption) (by assumption)) (fun s hs => ?_)); conv => whnf)
          | ((with_reducible refine forceA_of ?_); conv => whnf)
          | ((with_reducible refine forceL_pl (by assumption) ?_); conv => whnf)
          | ((with_reducible refine forceL_rpl (by assumption) ?_); conv => whnf)
          | fail)
        refine condm_of (fun h2 => ?_) (fun h2 => ?_)
        · have h3 := of_decide_eq_true h2
          obtain ⟨k2, rfl⟩ : ∃ k, c' = k + 2 := ⟨c' - 2, by omega⟩
          obtain ⟨mt, hmt⟩ : ∃ l, l = nps k2 := ⟨_, rfl⟩
          have pmt := Pl.np hmt
          obtain rfl : ms = .nilp :: mt := by rw [hms, hmt]; rfl
          conv => whnf
          repeat' (first
            | ((with_reducible refine regx_of ?_ ?_); (· decide +kernel); conv => whnf)
            | ((with_reducible refine growx_pre ?_ ?_); (· exact ⟨_, rfl⟩); conv => whnf)
            | ((with_reducible refine needm_of ?_ ?_); (· first | assumption | exact decide_eq_true (by omega) | exact mkOK_of (by decide) | decide +kernel | (refine decide_eq_true ?_; simp (disch := omega) only [i64w]; omega)); conv => whnf)
            | ((with_reducible refine condm_pos ?_ ?_); (· assumption); conv => whnf)
            | ((with_reducible refine condm_neg ?_ ?_); (· assumption); conv => whnf)
            | ((with_reducible refine forceL_fv (by assumption) ?_); conv => whnf)
            | ((with_reducible refine forceL_rfv (by assumption) ?_); conv => whnf)
            | ((with_reducible refine forceNm_of ?_); conv => whnf)
            | ((with_reducible refine needm_of (fv_lenL (by assumption) (by assumption)) ?_); conv => whnf)
            | ((with_reducible refine optm_var (fv_strL (by assumption) (by assumption)) (fun s hs => ?_)); conv => whnf)
            | ((with_reducible refine forceA_of ?_); conv => whnf)
            | ((with_reducible refine forceL_pl (by assumption) ?_); conv => whnf)
            | ((with_reducible refine forceL_rpl (by assumption) ?_); conv => whnf)
            | fail)
          refine needm_of (decide_eq_true (by show 0 + 1 * 1 + 1 ≤ mt.length + 1 + 1; omega)) ?_
          conv => whnf
          repeat' (first
            | ((with_reducible refine regx_of ?_ ?_); (· decide +kernel); conv => whnf)
            | ((with_reducible refine growx_pre ?_ ?_); (· exact ⟨_, rfl⟩); conv => whnf)
            | ((with_reducible refine needm_of ?_ ?_); (· first | assumption | exact decide_eq_true (by omega) | exact mkOK_of (by decide) | decide +kernel | (refine decide_eq_true ?_; simp (disch := omega) only [i64w]; omega)); conv => whnf)
            | ((with_reducible refine condm_pos ?_ ?_); (· assumption); conv => whnf)
            | ((with_reducible refine condm_neg ?_ ?_); (· assumption); conv => whnf)
            | ((with_reducible refine forceL_fv (by assumption) ?_); conv => whnf)
            | ((with_reducible refine forceL_rfv (by assumption) ?_); conv => whnf)
            | ((with_reducible refine forceNm_of ?_); conv => whnf)
            | ((with_reducible refine needm_of (fv_lenL (by assumption) (by assumption)) ?_); conv => whnf)
            | ((with_reducible refine optm_var (fv_strL (by assumption) (by assumption)) (fun s hs => ?_)); conv => whnf)
            | ((with_reducible refine forceA_of ?_); conv => whnf)
            | ((with_reducible refine forceL_pl (by assumption) ?_); conv => whnf)
            | ((with_reducible refine forceL_rpl (by assumption) ?_); conv => whnf)
            | fail)
          exact ⟨0, by decide, Into.weak [0, 1, 2, 3, 6, 7, 8, 9, 4, 5] [(1, .a (.rslc p len cap)), (5, .a (.slc 8 0 2 (k1 + 2))), (6, .a (.slc 9 0 2 (k2 + 2))), (7, .a (.int .i64 2))] [.cells [.int .i64 room, .slc 1 0 0 0] 57 false, .cells [] 61 false, .cells [.int .i64 room, .slc 3 0 0 0] 47 false, .cells [] 69 false, .cells [.int .i64 room, .slc 5 0 0 0] 57 false, .cells [] 61 false, .cells [.int .i64 room, .slc 7 0 0 0] 47 false, .cells [] 69 false, .cells (.ptr 0 0 :: .ptr 4 0 :: nt) 24 false, .cells (.ptr 2 0 :: .ptr 6 0 :: mt) 41 false] (.inr (.inr ⟨rfl, k1 + 2, (k2 + 2), nt, mt, pnt, pmt, rfl, rfl⟩)) ⟨rfl, rfl, rfl, rfl, trivial⟩ ⟨rfl, rfl, rfl, rfl, rfl, rfl, rfl, rfl, congrArg (fun l => some (Ob.cells (.ptr 0 0 :: .ptr 6 0 :: l) 24 false)) (pnt.1 _).symm, congrArg (fun l => some (Ob.cells (.ptr 2 0 :: .ptr 8 0 :: l) 41 false)) (pmt.1 _).symm, trivial⟩ (by simp [nodupb, baseb, Ob.okb, frmOk, V.okb, A.okb, pnt.2, pmt.2] <;> decide)⟩
        · have h3 := of_decide_eq_false h2
          conv => whnf
          repeat' (first
            | ((with_reducible refine regx_of ?_ ?_); (· decide +kernel); conv => whnf)
            | ((with_reducible refine growx_pre ?_ ?_); (· exact ⟨_, rfl⟩); conv => whnf)
            | ((with_reducible refine needm_of ?_ ?_); (· first | assumption | exact decide_eq_true (by omega) | exact mkOK_of (by decide) | decide +kernel | (refine decide_eq_true ?_; simp (disch := omega) only [i64w]; omega)); conv => whnf)
            | ((with_reducible refine condm_pos ?_ ?_); (· assumption); conv => whnf)
            | ((with_reducible refine condm_neg ?_ ?_); (· assumption); conv => whnf)
            | ((with_reducible refine forceL_fv (by assumption) ?_); conv => whnf)
            | ((with_reducible refine forceL_rfv (by assumption) ?_); conv => whnf)
            | ((with_reducible refine forceNm_of ?_); conv => whnf)
            | ((with_reducible refine needm_of (fv_lenL (by assumption) (by assumption)) ?_); conv => whnf)
            | ((with_reducible refine optm_var (fv_strL (by assumption) (by assumption)) (fun s hs => ?_)); conv => whnf)
            | ((with_reducible refine forceA_of ?_); conv => whnf)
            | ((with_reducible refine forceL_pl (by assumption) ?_); conv => whnf)
            | ((with_reducible refine forceL_rpl (by assumption) ?_); conv => whnf)
            | fail)
          intro c2 hc2
          conv => whnf
          repeat' (first
            | ((with_reducible refine regx_of ?_ ?_); (· decide +kernel); conv => whnf)
            | ((with_reducible refine growx_pre ?_ ?_); (· exact ⟨_, rfl⟩); conv => whnf)
            | ((with_reducible refine needm_of ?_ ?_); (· first | assumption | exact decide_eq_true (by omega) | exact mkOK_of (by decide) | decide +kernel | (refine decide_eq_true ?_; simp (disch := omega) only [i64w]; omega)); conv => whnf)
            | ((with_reducible refine condm_pos ?_ ?_); (· assumption); conv => whnf)
            | ((with_reducible refine condm_neg ?_ ?_); (· assumption); conv => whnf)
            | ((with_reducible refine forceL_fv (by assumption) ?_); conv => whnf)
            | ((with_reducible refine forceL_rfv (by assumption) ?_); conv => whnf)
            | ((with_reducible refine forceNm_of ?_); conv => whnf)
            | ((with_reducible refine needm_of (fv_lenL (by assumption) (by assumption)) ?_); conv => whnf)
            | ((with_reducible refine optm_var (fv_strL (by assumption) (by assumption)) (fun s hs => ?_)); conv => whnf)
            | ((with_reducible refine forceA_of ?_); conv => whnf)
            | ((with_reducible refine forceL_pl (by assumption) ?_); conv => whnf)
            | ((with_reducible refine forceL_rpl (by assumption) ?_); conv => whnf)
            | fail)
          refine forceL_var (l' := nps (c2 - (1 + 1))) (np_new' (Nat.mul_one _)) (fun mt hmt => ?_)
          have pmt := Pl.np hmt
          conv => whnf
          repeat' (first
            | ((with_reducible refine regx_of ?_ ?_); (· decide +kernel); conv => whnf)
            | ((with_reducible refine growx_pre ?_ ?_); (· exact ⟨_, rfl⟩); conv => whnf)
            | ((with_reducible refine needm_of ?_ ?_); (· first | assumption | exact decide_eq_true (by omega) | exact mkOK_of (by decide) | decide +kernel | (refine decide_eq_true ?_; simp (disch := omega) only [i64w]; omega)); conv => whnf)
            | ((with_reducible refine condm_pos ?_ ?_); (· assumption); conv => whnf)
            | ((with_reducible refine condm_neg ?_ ?_); (· assumption); conv => whnf)
            | ((with_reducible refine forceL_fv (by assumption) ?_); conv => whnf)
            | ((with_reducible refine forceL_rfv (by assumption) ?_); conv => whnf)
            | ((with_reducible refine forceNm_of ?_); conv => whnf)
            | ((with_reducible refine needm_of (fv_lenL (by assumption) (by assumption)) ?_); conv => whnf)
            | ((with_reducible refine optm_var (fv_strL (by assumption) (by assumption)) (fun s hs => ?_)); conv => whnf)
            | ((with_reducible refine forceA_of ?_); conv => whnf)
            | ((with_reducible refine forceL_pl (by assumption) ?_); conv => whnf)
            | ((with_reducible refine forceL_rpl (by assumption) ?_); conv => whnf)
            | fail)
          exact ⟨0, by decide, Into.weak [0, 1, 2, 3, 6, 7, 8, 9, 4, 12] [(1, .a (.rslc p len cap)), (5, .a (.slc 8 0 2 (k1 + 2))), (6, .a (.slc 9 0 2 c2)), (7, .a (.int .i64 2))] [.cells [.int .i64 room, .slc 1 0 0 0] 57 false, .cells [] 61 false, .cells [.int .i64 room, .slc 3 0 0 0] 47 false, .cells [] 69 false, .cells [.int .i64 room, .slc 5 0 0 0] 57 false, .cells [] 61 false, .cells [.int .i64 room, .slc 7 0 0 0] 47 false, .cells [] 69 false, .cells (.ptr 0 0 :: .ptr 4 0 :: nt) 24 false, .cells (.ptr 2 0 :: .ptr 6 0 :: mt) 41 false] (.inr (.inr ⟨rfl, k1 + 2, c2, nt, mt, pnt, pmt, rfl, rfl⟩)) ⟨rfl, rfl, rfl, rfl, trivial⟩ ⟨rfl, rfl, rfl, rfl, rfl, rfl, rfl, rfl, congrArg (fun l => some (Ob.cells (.ptr 0 0 :: .ptr 6 0 :: l) 24 false)) (pnt.1 _).symm, congrArg (fun l => some (Ob.cells (.ptr 2 0 :: .ptr 8 0 :: l) 41 false)) (pmt.1 _).symm, trivial⟩ (by simp [nodupb, baseb, Ob.okb, frmOk, V.okb, A.okb, pnt.2, pmt.2] <;> decide)⟩
      · have h' := of_decide_eq_false h
        conv => whnf
        repeat' (first
          | ((with_reducible refine regx_of ?_ ?_); (· decide +kernel); conv => whnf)
          | ((with_reducible refine growx_pre ?_ ?_); (· exact ⟨_, rfl⟩); conv => whnf)
          | ((with_reducible refine needm_of ?_ ?_); (· first | assumption | exact decide_eq_true (by omega) | exact mkOK_of (by decide) | decide +kernel | (refine decide_eq_true ?_; simp (disch := omega) only [i64w]; omega)); conv => whnf)
          | ((with_reducible refine condm_pos ?_ ?_); (· assumption); conv => whnf)
          | ((with_reducible refine condm_neg ?_ ?_); (· assumption); conv => whnf)
          | ((with_reducible refine forceL_fv (by assumption) ?_); conv => whnf)
          | ((with_reducible refine forceL_rfv (by assumption) ?_); conv => whnf)
          | ((with_reducible refine forceNm_of ?_); conv => whnf)
          | ((with_reducible refine needm_of (fv_lenL (by assumption) (by assumption)) ?_); conv => whnf)
          | ((with_reducible refine optm_var (fv_strL (by assumption) (by assumption)) (fun s hs => ?_)); conv => whnf)
          | ((with_reducible refine forceA_of ?_); conv => whnf)
          | ((with_reducible refine forceL_pl (by assumption) ?_); conv => whnf)
          | ((with_reducible refine forceL_rpl (by assumption) ?_); conv => whnf)
          | fail)
        intro c1 hc1
        conv => whnf
        repeat' (first
          | ((with_reducible refine regx_of ?_ ?_); (· decide +kernel); conv => whnf)
          | ((with_reducible refine growx_pre ?_ ?_); (· exact ⟨_, rfl⟩); conv => whnf)
          | ((with_reducible refine needm_of ?_ ?_); (· first | assumption | exact decide_eq_true (by omega) | exact mkOK_of (by decide) | decide +kernel | (refine decide_eq_true ?_; simp (disch := omega) only [i64w]; omega)); conv => whnf)
          | ((with_reducible refine condm_pos ?_ ?_); (· assumption); conv => whnf)
          | ((with_reducible refine condm_neg ?_ ?_); (· assumption); conv => whnf)
          | ((with_reducible refine forceL_fv (by assumption) ?_); conv => whnf)
          | ((with_reducible refine forceL_rfv (by assumption) ?_); conv => whnf)
          | ((with_reducible refine forceNm_of ?_); conv => whnf)
          | ((with_reducible refine needm_of (fv_lenL (by assumption) (by assumption)) ?_); conv => whnf)
          | ((with_reducible refine optm_var (fv_strL (by assumption) (by assumption)) (fun s hs => ?_)); conv => whnf)
          | ((with_reducible refine forceA_of ?_); conv => whnf)
          | ((with_reducible refine forceL_pl (by assumption) ?_); conv => whnf)
          | ((with_reducible refine forceL_rpl (by assumption) ?_); conv => whnf)
          | fail)
        refine forceL_var (l' := nps (c1 - (1 + 1))) (np_new (Nat.mul_one _)) (fun nt hnt => ?_)
        have pnt := Pl.np hnt
        conv => whnf
        repeat' (first
          | ((with_reducible refine regx_of ?_ ?_); (· decide +kernel); conv => whnf)
          | ((with_reducible refine growx_pre ?_ ?_); (· exact ⟨_, rfl⟩); conv => whnf)
          | ((with_reducible refine needm_of ?_ ?_); (· first | assumption | exact decide_eq_true (by omega) | exact mkOK_of (by decide) | decide +kernel | (refine decide_eq_true ?_; simp (disch := omega) only [i64w]; omega)); conv => whnf)
          | ((with_reducible refine condm_pos ?_ ?_); (· assumption); conv => whnf)
          | ((with_reducible refine condm_neg ?_ ?_); (· assumption); conv => whnf)
          | ((with_reducible refine forceL_fv (by assumption) ?_); conv => whnf)
          | ((with_reducible refine forceL_rfv (by assumption) ?_); conv => whnf)
          | ((with_reducible refine forceNm_of ?_); conv => whnf)
          | ((with_reducible refine needm_of (fv_lenL (by assumption) (by assumption)) ?_); conv => whnf)
          | ((with_reducible refine optm_var (fv_strL (by assumption) (by assumption)) (fun s hs => ?_)); conv => whnf)
          | ((with_reducible refine forceA_of ?_); conv => whnf)
          | ((with_reducible refine forceL_pl (by assumption) ?_); conv => whnf)
          | ((with_reducible refine forceL_rpl (by assumption) ?_); conv => whnf)
          | fail)
        refine condm_of (fun h2 => ?_) (fun h2 => ?_)
        · have h3 := of_decide_eq_true h2
          obtain ⟨k2, rfl⟩ : ∃ k, c' = k + 2 := ⟨c' - 2, by omega⟩
          obtain ⟨mt, hmt⟩ : ∃ l, l = nps k2 := ⟨_, rfl⟩
          have pmt := Pl.np hmt
          obtain rfl : ms = .nilp :: mt := by rw [hms, hmt]; rfl
          conv => whnf
          repeat' (first
            | ((with_reducible refine regx_of ?_ ?_); (· decide +kernel); conv => whnf)
            | ((with_reducible refine growx_pre ?_ ?_); (· exact ⟨_, rfl⟩); conv => whnf)
            | ((with_reducible refine needm_of ?_ ?_); (· first | assumption | exact decide_eq_true (by omega) | exact mkOK_of (by decide) | decide +kernel | (refine decide_eq_true ?_; simp (disch := omega) only [i64w]; omega)); conv => whnf)
            | ((with_reducible refine condm_pos ?_ ?_); (· assumption); conv => whnf)
            | ((with_reducible refine condm_neg ?_ ?_); (· assumption); conv => whnf)
            | ((with_reducible refine forceL_fv (by assumption) ?_); conv => whnf)
            | ((with_reducible refine forceL_rfv (by assumption) ?_); conv => whnf)
            | ((with_reducible refine forceNm_of ?_); conv => whnf)
            | ((with_reducible refine needm_of (fv_lenL (by assumption) (by assumption)) ?_); conv => whnf)
            | ((with_reducible refine optm_var (fv_strL (by assumption) (by assumption)) (fun s hs => ?_)); conv => whnf)
            | ((with_reducible refine forceA_of ?_); conv => whnf)
            | ((with_reducible refine forceL_pl (by assumption) ?_); conv => whnf)
            | ((with_reducible refine forceL_rpl (by assumption) ?_); conv => whnf)
            | fail)
          refine needm_of (decide_eq_true (by show 0 + 1 * 1 + 1 ≤ mt.length + 1 + 1; omega)) ?_
          conv => whnf
          repeat' (first
            | ((with_reducible refine regx_of ?_ ?_); (· decide +kernel); conv => whnf)
            | ((with_reducible refine growx_pre ?_ ?_); (· exact ⟨_, rfl⟩); conv => whnf)
            | ((with_reducible refine needm_of ?_ ?_); (· first | assumption | exact decide_eq_true (by omega) | exact mkOK_of (by decide) | decide +kernel | (refine decide_eq_true ?_; simp (disch := omega) only [i64w]; omega)); conv => whnf)
            | ((with_reducible refine condm_pos ?_ ?_); (· assumption); conv => whnf)
            | ((with_reducible refine condm_neg ?_ ?_); (· assumption); conv => whnf)
            | ((with_reducible refine forceL_fv (by assumption) ?_); conv => whnf)
            | ((with_reducible refine forceL_rfv (by assumption) ?_); conv => whnf)
            | ((with_reducible refine forceNm_of ?_); conv => whnf)
            | ((with_reducible refine needm_of (fv_lenL (by assumption) (by assumption)) ?_); conv => whnf)
            | ((with_reducible refine optm_var (fv_strL (by assumption) (by assumption)) (fun s hs => ?_)); conv => whnf)
            | ((with_reducible refine forceA_of ?_); conv => whnf)
            | ((with_reducible refine forceL_pl (by assumption) ?_); conv => whnf)
            | ((with_reducible refine forceL_rpl (by assumption) ?_); conv => whnf)
            | fail)
          exact ⟨0, by decide, Into.weak [0, 1, 2, 3, 6, 7, 8, 9, 11, 5] [(1, .a (.rslc p len cap)), (5, .a (.slc 8 0 2 c1)), (6, .a (.slc 9 0 2 (k2 + 2))), (7, .a (.int .i64 2))] [.cells [.int .i64 room, .slc 1 0 0 0] 57 false, .cells [] 61 false, .cells [.int .i64 room, .slc 3 0 0 0] 47 false, .cells [] 69 false, .cells [.int .i64 room, .slc 5 0 0 0] 57 false, .cells [] 61 false, .cells [.int .i64 room, .slc 7 0 0 0] 47 false, .cells [] 69 false, .cells (.ptr 0 0 :: .ptr 4 0 :: nt) 24 false, .cells (.ptr 2 0 :: .ptr 6 0 :: mt) 41 false] (.inr (.inr ⟨rfl, c1, (k2 + 2), nt, mt, pnt, pmt, rfl, rfl⟩)) ⟨rfl, rfl, rfl, rfl, trivial⟩ ⟨rfl, rfl, rfl, rfl, rfl, rfl, rfl, rfl, congrArg (fun l => some (Ob.cells (.ptr 0 0 :: .ptr 6 0 :: l) 24 false)) (pnt.1 _).symm, congrArg (fun l => some (Ob.cells (.ptr 2 0 :: .ptr 8 0 :: l) 41 false)) (pmt.1 _).symm, trivial⟩ (by simp [nodupb, baseb, Ob.okb, frmOk, V.okb, A.okb, pnt.2, pmt.2] <;> decide)⟩
        · have h3 := of_decide_eq_false h2
          conv => whnf
          repeat' (first
            | ((with_reducible refine regx_of ?_ ?_); (· decide +kernel); conv => whnf)
            | ((with_reducible refine growx_pre ?_ ?_); (· exact ⟨_, rfl⟩); conv => whnf)
            | ((with_reducible refine needm_of ?_ ?_); (· first | assumption | exact decide_eq_true (by omega) | exact mkOK_of (by decide) | decide +kernel | (refine decide_eq_true ?_; simp (disch := omega) only [i64w]; omega)); conv => whnf)
            | ((with_reducible refine condm_pos ?_ ?_); (· assumption); conv => whnf)
            | ((with_reducible refine condm_neg ?_ ?_); (· assumption); conv => whnf)
            | ((with_reducible refine forceL_fv (by assumption) ?_); conv => whnf)
            | ((with_reducible refine forceL_rfv (by assumption) ?_); conv => whnf)
            | ((with_reducible refine forceNm_of ?_); conv => whnf)
            | ((with_reducible refine needm_of (fv_lenL (by assumption) (by assumption)) ?_); conv => whnf)
            | ((with_reducible refine optm_var (fv_strL (by assumption) (by assumption)) (fun s hs => ?_)); conv => whnf)
            | ((with_reducible refine forceA_of ?_); conv => whnf)
            | ((with_reducible refine forceL_pl (by assumption) ?_); conv => whnf)
            | ((with_reducible refine forceL_rpl (by assumption) ?_); conv => whnf)
            | fail)
          intro c2 hc2
          conv => whnf
          repeat' (first
            | ((with_reducible refine regx_of ?_ ?_); (· decide +kernel); conv => whnf)
            | ((with_reducible refine growx_pre ?_ ?_); (· exact ⟨_, rfl⟩); conv => whnf)
            | ((with_reducible refine needm_of ?_ ?_); (· first | assumption | exact decide_eq_true (by omega) | exact mkOK_of (by decide) | decide +kernel | (refine decide_eq_true ?_; simp (disch := omega) only [i64w]; omega)); conv => whnf)
            | ((with_reducible refine condm_pos ?_ ?_); (· assumption); conv => whnf)
            | ((with_reducible refine condm_neg ?_ ?_); (· assumption); conv => whnf)
            | ((with_reducible refine forceL_fv (by assumption) ?_); conv => whnf)
            | ((with_reducible refine forceL_rfv (by assumption) ?_); conv => whnf)
            | ((with_reducible refine forceNm_of ?_); conv => whnf)
            | ((with_reducible refine needm_of (fv_lenL (by assumption) (by assumption)) ?_); conv => whnf)
            | ((with_reducible refine optm_var (fv_strL (by assumption) (by assumption)) (fun s hs => ?_)); conv => whnf)
            | ((with_reducible refine forceA_of ?_); conv => whnf)
            | ((with_reducible refine forceL_pl (by assumption) ?_); conv => whnf)
            | ((with_reducible refine forceL_rpl (by assumption) ?_); conv => whnf)
            | fail)
          refine forceL_var (l' := nps (c2 - (1 + 1))) (np_new' (Nat.mul_one _)) (fun mt hmt => ?_)
          have pmt := Pl.np hmt
          conv => whnf
          repeat' (first
            | ((with_reducible refine regx_of ?_ ?_); (· decide +kernel); conv => whnf)
            | ((with_reducible refine growx_pre ?_ ?_); (· exact ⟨_, rfl⟩); conv => whnf)
            | ((with_reducible refine needm_of ?_ ?_); (· first | assumption | exact decide_eq_true (by omega) | exact mkOK_of (by decide) | decide +kernel | (refine decide_eq_true ?_; simp (disch := omega) only [i64w]; omega)); conv => whnf)
            | ((with_reducible refine condm_pos ?_ ?_); (· assumption); conv => whnf)
            | ((with_reducible refine condm_neg ?_ ?_); (· assumption); conv => whnf)
            | ((with_reducible refine forceL_fv (by assumption) ?_); conv => whnf)
            | ((with_reducible refine forceL_rfv (by assumption) ?_); conv => whnf)
            | ((with_reducible refine forceNm_of ?_); conv => whnf)
            | ((with_reducible refine needm_of (fv_lenL (by assumption) (by assumption)) ?_); conv => whnf)
            | ((with_reducible refine optm_var (fv_strL (by assumption) (by assumption)) (fun s hs => ?_)); conv => whnf)
            | ((with_reducible refine forceA_of ?_); conv => whnf)
            | ((with_reducible refine forceL_pl (by assumption) ?_); conv => whnf)
            | ((with_reducible refine forceL_rpl (by assumption) ?_); conv => whnf)
            | fail)
          exact ⟨0, by decide, Into.weak [0, 1, 2, 3, 6, 7, 8, 9, 11, 13] [(1, .a (.rslc p len cap)), (5, .a (.slc 8 0 2 c1)), (6, .a (.slc 9 0 2 c2)), (7, .a (.int .i64 2))] [.cells [.int .i64 room, .slc 1 0 0 0] 57 false, .cells [] 61 false, .cells [.int .i64 room, .slc 3 0 0 0] 47 false, .cells [] 69 false, .cells [.int .i64 room, .slc 5 0 0 0] 57 false, .cells [] 61 false, .cells [.int .i64 room, .slc 7 0 0 0] 47 false, .cells [] 69 false, .cells (.ptr 0 0 :: .ptr 4 0 :: nt) 24 false, .cells (.ptr 2 0 :: .ptr 6 0 :: mt) 41 false] (.inr (.inr ⟨rfl, c1, c2, nt, mt, pnt, pmt, rfl, rfl⟩)) ⟨rfl, rfl, rfl, rfl, trivial⟩ ⟨rfl, rfl, rfl, rfl, rfl, rfl, rfl, rfl, congrArg (fun l => some (Ob.cells (.ptr 0 0 :: .ptr 6 0 :: l) 24 false)) (pnt.1 _).symm, congrArg (fun l => some (Ob.cells (.ptr 2 0 :: .ptr 8 0 :: l) 41 false)) (pmt.1 _).symm, trivial⟩ (by simp [nodupb, baseb, Ob.okb, frmOk, V.okb, A.okb, pnt.2, pmt.2] <;> decide)⟩
    · have pn := hns
      have pm := hms
      have n0 : Nt [] [] 0 := ⟨[], by simp [fls_nil], rfl⟩
      have p0 : Pl ([] : List A) := n0.pl
      conv => whnf
      repeat' (first
        | ((with_reducible refine regx_of ?_ ?_); (· decide +kernel); conv => whnf)
        | ((with_reducible refine growx_pre ?_ ?_); (· exact ⟨_, rfl⟩); conv => whnf)
        | ((with_reducible refine needm_of ?_ ?_); (· first | assumption | exact decide_eq_true (by omega) | exact mkOK_of (by decide) | decide +kernel | (refine decide_eq_true ?_; simp (disch := omega) only [i64w]; omega)); conv => whnf)
        | ((with_reducible refine condm_pos ?_ ?_); (· assumption); conv => whnf)
        | ((with_reducible refine condm_neg ?_ ?_); (· assumption); conv => whnf)
        | ((with_reducible refine forceL_fv (by assumption) ?_); conv => whnf)
        | ((with_reducible refine forceL_rfv (by assumption) ?_); conv => whnf)
        | ((with_reducible refine forceNm_of ?_); conv => whnf)
        | ((with_reducible refine needm_of (fv_lenL (by assumption) (by assumption)) ?_); conv => whnf)
        | ((with_reducible refine optm_var (fv_strL (by assumption) (by assumption)) (fun s hs => ?_)); conv => whnf)
        | ((with_reducible refine forceA_of ?_); conv => whnf)
        | ((with_reducible refine forceL_pl (by assumption) ?_); conv => whnf)
        | ((with_reducible refine forceL_rpl (by assumption) ?_); conv => whnf)
        | fail)
      refine loopx_of (fun q F H => ∃ (i : Nat) (L1 L2 : List Fl) (n1 n2 a1 a2 a3 a4 : Nat) (x1 x2 x3 x4 : List A) (m1 m2 m3 m4 : Bool), i ≤ len ∧ q = len - i ∧ n1 = L1.length ∧ n2 = L2.length ∧ L1.length ≤ room ∧ L2.length ≤ room ∧ Nt L1 x1 a1 ∧ Nt L1 x2 a2 ∧ Nt L2 x3 a3 ∧ Nt L2 x4 a4 ∧ F = [(1, .a (.rslc p len cap)), (5, .a (.slc 8 0 2 c)), (6, .a (.slc 9 0 2 c')), (12, .a (.int .i64 i))] ∧ H = [.cells [.int .i64 room, .slc 1 0 n1 a1] 57 false, .cells x1 61 m1, .cells [.int .i64 room, .slc 3 0 n1 a2] 47 false, .cells x2 69 m2, .cells [.int .i64 room, .slc 5 0 n2 a3] 57 false, .cells x3 61 m3, .cells [.int .i64 room, .slc 7 0 n2 a4] 47 false, .cells x4 69 m4, .cells (.ptr 0 0 :: .ptr 4 0 :: ns) 24 false, .cells (.ptr 2 0 :: .ptr 6 0 :: ms) 41 false]) len ?_ ?_
      · exact Into.weak [0, 1, 2, 3, 4, 5, 6, 7, 8, 9] [(1, .a (.rslc p len cap)), (5, .a (.slc 8 0 2 c)), (6, .a (.slc 9 0 2 c')), (12, .a (.int .i64 (0 : Nat)))] [.cells [.int .i64 room, .slc 1 0 0 0] 57 false, .cells [] 61 false, .cells [.int .i64 room, .slc 3 0 0 0] 47 false, .cells [] 69 false, .cells [.int .i64 room, .slc 5 0 0 0] 57 false, .cells [] 61 false, .cells [.int .i64 room, .slc 7 0 0 0] 47 false, .cells [] 69 false, .cells (.ptr 0 0 :: .ptr 4 0 :: ns) 24 false, .cells (.ptr 2 0 :: .ptr 6 0 :: ms) 41 false] ⟨0, [], [], 0, 0, 0, 0, 0, 0, [], [], [], [], false, false, false, false, Nat.zero_le _, rfl, rfl, rfl, Nat.zero_le _, Nat.zero_le _, n0, n0, n0, n0, rfl, rfl⟩ ⟨rfl, rfl, rfl, rfl, trivial⟩ ⟨rfl, ren_pl p0 _ _ _, rfl, ren_pl p0 _ _ _, rfl, ren_pl p0 _ _ _, rfl, ren_pl p0 _ _ _, congrArg (fun l => some (Ob.cells (.ptr 0 0 :: .ptr 4 0 :: l) 24 false)) (pn.1 _).symm, congrArg (fun l => some (Ob.cells (.ptr 2 0 :: .ptr 6 0 :: l) 41 false)) (pm.1 _).symm, trivial⟩ (by simp [nodupb, baseb, Ob.okb, frmOk, V.okb, A.okb, pn.2, pm.2] <;> decide)
      · rintro q F H ⟨i, L1, L2, n1, n2, a1, a2, a3, a4, x1, x2, x3, x4, m1, m2, m3, m4, hi, rfl, e1, e2, r1, r2, N1, N2, N3, N4, rfl, rfl⟩
        have h1 := N1.pl
        have h2 := N2.pl
        have h3 := N3.pl
        have h4 := N4.pl
        conv => whnf
        repeat' (first
          | ((with_reducible refine regx_of ?_ ?_); (· decide +kernel); conv => whnf)
          | ((with_reducible refine growx_pre ?_ ?_); (· exact ⟨_, rfl⟩); conv => whnf)
          | ((with_reducible refine needm_of ?_ ?_); (· first | assumption | exact decide_eq_true (by omega) | exact mkOK_of (by decide) | decide +kernel | (refine decide_eq_true ?_; simp (disch := omega) only [i64w]; omega)); conv => whnf)
          | ((with_reducible refine condm_pos ?_ ?_); (· assumption); conv => whnf)
          | ((with_reducible refine condm_neg ?_ ?_); (· assumption); conv => whnf)
          | ((with_reducible refine forceL_fv (by assumption) ?_); conv => whnf)
          | ((with_reducible refine forceL_rfv (by assumption) ?_); conv => whnf)
          | ((with_reducible refine forceNm_of ?_); conv => whnf)
          | ((with_reducible refine needm_of (fv_lenL (by assumption) (by assumption)) ?_); conv => whnf)
          | ((with_reducible refine optm_var (fv_strL (by assumption) (by assumption)) (fun s hs => ?_)); conv => whnf)
          | ((with_reducible refine forceA_of ?_); conv => whnf)
          | ((with_reducible refine forceL_pl (by assumption) ?_); conv => whnf)
          | ((with_reducible refine forceL_rpl (by assumption) ?_); conv => whnf)
          | fail)
        refine condm_of (fun h => ?_) (fun h => ?_)
        · have hil : i < len := by have := of_decide_eq_true h; omega
          have hw : IntKind.i64.wrap (↑i + 1) = ((i + 1 : Nat) : Int) := by rw [i64w (by omega) (by omega)]; rfl
          obtain ⟨hf, hro⟩ := hG.get hil
          unfold KO at hf
          obtain ⟨who, r0, e0, b0, f0⟩ := Fits.int hf
          obtain ⟨kd, r1', rfl, b1, f1⟩ := Fits.int f0
          obtain ⟨I, r2', rfl, b2, f2⟩ := Fits.int f1
          obtain ⟨J, r3, rfl, b3, f3⟩ := Fits.int f2
          obtain ⟨fr, r4, rfl, b4, f4⟩ := Fits.int f3
          obtain ⟨to, r5, rfl, b5, f5⟩ := Fits.int f4
          obtain ⟨s, r6, rfl, b6, f6⟩ := Fits.str f5
          obtain rfl := Fits.nil f6
          obtain ⟨st, hst⟩ : ∃ st : List A, st = G i := ⟨_, rfl⟩
          rw [← hst] at hro
          rw [e0] at hst
          obtain ⟨fr, rfl⟩ := u8_of b4
          obtain ⟨to, rfl⟩ := u8_of b5
          have hsl : st.length = 7 := by rw [hst]; rfl
          have hsp : Pl st := by rw [hst]; exact ⟨fun _ => rfl, fun _ => rfl⟩
          have ld : ∀ j y, st[j]? = some y → roOf W ((p.add (i * 7)).add j) y := fun j y h => by rw [addr_add_add]; exact hro j y h
          have ld0 : roOf W (p.add (i * 7)) (.int .i64 who) := hro 0 _ (by rw [hst]; rfl)
          clear hro e0 b0 b1 b2 b3 b4 b5 b6 f0 f1 f2 f3 f4 f5 f6 hf hG h
          conv => whnf
          repeat' (first
            | (refine ⟨_, ld0, ?_⟩; conv => whnf)
            | (refine ⟨st, hsl, ld, ?_⟩; conv => whnf)
            | ((with_reducible refine regx_of ?_ ?_); (· decide +kernel); conv => whnf)
            | ((with_reducible refine growx_pre ?_ ?_); (· exact ⟨_, rfl⟩); conv => whnf)
            | ((with_reducible refine needm_of ?_ ?_); (· first | assumption | exact decide_eq_true (by omega) | exact mkOK_of (by decide) | decide +kernel | (refine decide_eq_true ?_; simp (disch := omega) only [i64w]; omega)); conv => whnf)
            | ((with_reducible refine condm_pos ?_ ?_); (· assumption); conv => whnf)
            | ((with_reducible refine condm_neg ?_ ?_); (· assumption); conv => whnf)
            | ((with_reducible refine forceL_fv (by assumption) ?_); conv => whnf)
            | ((with_reducible refine forceL_rfv (by assumption) ?_); conv => whnf)
            | ((with_reducible refine forceNm_of ?_); conv => whnf)
            | ((with_reducible refine needm_of (fv_lenL (by assumption) (by assumption)) ?_); conv => whnf)
            | ((with_reducible refine optm_var (fv_strL (by assumption) (by assumption)) (fun s hs => ?_)); conv => whnf)
            | ((with_reducible refine forceA_of ?_); conv => whnf)
            | ((with_reducible refine forceL_pl (by assumption) ?_); conv => whnf)
            | ((with_reducible refine forceL_rpl (by assumption) ?_); conv => whnf)
            | fail)
          refine condm_of (fun h => ?_) (fun h => ?_)
          ·
            conv => whnf
            repeat' (first
              | (refine ⟨_, ld0, ?_⟩; conv => whnf)
              | (refine ⟨st, hsl, ld, ?_⟩; conv => whnf)
              | ((with_reducible refine regx_of ?_ ?_); (· decide +kernel); conv => whnf)
              | ((with_reducible refine growx_pre ?_ ?_); (· exact ⟨_, rfl⟩); conv => whnf)
              | ((with_reducible refine needm_of ?_ ?_); (· first | assumption | exact decide_eq_true (by omega) | exact mkOK_of (by decide) | decide +kernel | (refine decide_eq_true ?_; simp (disch := omega) only [i64w]; omega)); conv => whnf)
              | ((with_reducible refine condm_pos ?_ ?_); (· assumption); conv => whnf)
              | ((with_reducible refine condm_neg ?_ ?_); (· assumption); conv => whnf)
              | ((with_reducible refine forceL_fv (by assumption) ?_); conv => whnf)
              | ((with_reducible refine forceL_rfv (by assumption) ?_); conv => whnf)
              | ((with_reducible refine forceNm_of ?_); conv => whnf)
              | ((with_reducible refine needm_of (fv_lenL (by assumption) (by assumption)) ?_); conv => whnf)
              | ((with_reducible refine optm_var (fv_strL (by assumption) (by assumption)) (fun s hs => ?_)); conv => whnf)
              | ((with_reducible refine forceA_of ?_); conv => whnf)
              | ((with_reducible refine forceL_pl (by assumption) ?_); conv => whnf)
              | ((with_reducible refine forceL_rpl (by assumption) ?_); conv => whnf)
              | fail)
            subst e2
            refine Go.Eng.Fn.frame [4, 5, 6, 7] (by show [_, _, V.g (st.map (A.ren _))] = _; rw [hsp.1]; rfl) (by exact ⟨rfl, ren_pl h3 _ _ _, rfl, ren_pl h4 _ _ _, trivial⟩) (by simp [nodupb, V.okb, A.okb, Ob.okb, hsp.2, h3.2, h4.2] <;> decide) (step19 room hr2 L2 a3 a4 x3 x4 m3 m4 r2 N3 N4 st who kd I J fr to s hst (fun L' n' y1 y2 z1 z2 eL rL M1 M2 => ?_) (fun L' n' y1 y2 z1 z2 eL rL M1 M2 => ?_) (fun L' n' y1 y2 z1 z2 mk' eL rL M1 M2 => ?_) (fun L' n' y1 y2 z1 z2 mk' eL rL M1 M2 => ?_))
            · have q1 := M1.pl
              have q2 := M2.pl
              have c9 : ((n' : Int) != (n' : Int)) = false := by simp
              conv => whnf
              repeat' (first
                | (refine ⟨_, ld0, ?_⟩; conv => whnf)
                | (refine ⟨st, hsl, ld, ?_⟩; conv => whnf)
                | ((with_reducible refine regx_of ?_ ?_); (· decide +kernel); conv => whnf)
                | ((with_reducible refine growx_pre ?_ ?_); (· exact ⟨_, rfl⟩); conv => whnf)
                | ((with_reducible refine needm_of ?_ ?_); (· first | assumption | exact decide_eq_true (by omega) | exact mkOK_of (by decide) | decide +kernel | (refine decide_eq_true ?_; simp (disch := omega) only [i64w]; omega)); conv => whnf)
                | ((with_reducible refine condm_pos ?_ ?_); (· assumption); conv => whnf)
                | ((with_reducible refine condm_neg ?_ ?_); (· assumption); conv => whnf)
                | ((with_reducible refine forceL_fv (by assumption) ?_); conv => whnf)
                | ((with_reducible refine forceL_rfv (by assumption) ?_); conv => whnf)
                | ((with_reducible refine forceNm_of ?_); conv => whnf)
                | ((with_reducible refine needm_of (fv_lenL (by assumption) (by assumption)) ?_); conv => whnf)
                | ((with_reducible refine optm_var (fv_strL (by assumption) (by assumption)) (fun s hs => ?_)); conv => whnf)
                | ((with_reducible refine forceA_of ?_); conv => whnf)
                | ((with_reducible refine forceL_pl (by assumption) ?_); conv => whnf)
                | ((with_reducible refine forceL_rpl (by assumption) ?_); conv => whnf)
                | fail)
              refine Go.Eng.Fn.frame [4, 5] (by rfl) (by exact ⟨rfl, ren_pl q1 _ _ _, trivial⟩) (by simp [nodupb, V.okb, A.okb, Ob.okb, q1.2] <;> decide) (len14 room n' y1 z1 q1 m3 ?_)
              refine growx_pre (by simp [plugL, Ob.ren, q1.1, A.ren, frD]) ?_
              conv => whnf
              repeat' (first
                | (refine ⟨_, ld0, ?_⟩; conv => whnf)
                | (refine ⟨st, hsl, ld, ?_⟩; conv => whnf)
                | ((with_reducible refine regx_of ?_ ?_); (· decide +kernel); conv => whnf)
                | ((with_reducible refine growx_pre ?_ ?_); (· exact ⟨_, rfl⟩); conv => whnf)
                | ((with_reducible refine needm_of ?_ ?_); (· first | assumption | exact decide_eq_true (by omega) | exact mkOK_of (by decide) | decide +kernel | (refine decide_eq_true ?_; simp (disch := omega) only [i64w]; omega)); conv => whnf)
                | ((with_reducible refine condm_pos ?_ ?_); (· assumption); conv => whnf)
                | ((with_reducible refine condm_neg ?_ ?_); (· assumption); conv => whnf)
                | ((with_reducible refine forceL_fv (by assumption) ?_); conv => whnf)
                | ((with_reducible refine forceL_rfv (by assumption) ?_); conv => whnf)
                | ((with_reducible refine forceNm_of ?_); conv => whnf)
                | ((with_reducible refine needm_of (fv_lenL (by assumption) (by assumption)) ?_); conv => whnf)
                | ((with_reducible refine optm_var (fv_strL (by assumption) (by assumption)) (fun s hs => ?_)); conv => whnf)
                | ((with_reducible refine forceA_of ?_); conv => whnf)
                | ((with_reducible refine forceL_pl (by assumption) ?_); conv => whnf)
                | ((with_reducible refine forceL_rpl (by assumption) ?_); conv => whnf)
                | fail)
              exact ⟨len - (i + 1), by omega, Into.weak [0, 1, 2, 3, 4, 5, 6, 7, 8, 9] [(1, .a (.rslc p len cap)), (5, .a (.slc 8 0 2 c)), (6, .a (.slc 9 0 2 c')), (12, .a (.int .i64 ((i + 1 : Nat) : Int)))] [.cells [.int .i64 room, .slc 1 0 n1 a1] 57 false, .cells x1 61 m1, .cells [.int .i64 room, .slc 3 0 n1 a2] 47 false, .cells x2 69 m2, .cells [.int .i64 room, .slc 5 0 n' y1] 57 false, .cells z1 61 m3, .cells [.int .i64 room, .slc 7 0 n' y2] 47 false, .cells z2 69 m4, .cells (.ptr 0 0 :: .ptr 4 0 :: ns) 24 false, .cells (.ptr 2 0 :: .ptr 6 0 :: ms) 41 false] ⟨i + 1, L1, L', n1, n', a1, a2, y1, y2, x1, x2, z1, z2, m1, m2, m3, m4, by omega, rfl, e1, eL, r1, rL, N1, N2, M1, M2, rfl, rfl⟩ ⟨rfl, rfl, rfl, congrArg (fun z => some (V.a (.int .i64 z))) hw, trivial⟩ ⟨rfl, ren_pl h1 _ _ _, rfl, ren_pl h2 _ _ _, rfl, ren_pl q1 _ _ _, rfl, ren_pl q2 _ _ _, congrArg (fun l => some (Ob.cells (.ptr 0 0 :: .ptr 4 0 :: l) 24 false)) (pn.1 _).symm, congrArg (fun l => some (Ob.cells (.ptr 2 0 :: .ptr 6 0 :: l) 41 false)) (pm.1 _).symm, trivial⟩ (by simp [nodupb, baseb, Ob.okb, frmOk, V.okb, A.okb, h1.2, h2.2, q1.2, q2.2, pn.2, pm.2] <;> decide)⟩
            · have q1 := M1.pl
              have q2 := M2.pl
              have c9 : ((n' : Int) != (n' : Int)) = false := by simp
              conv => whnf
              repeat' (first
                | (refine ⟨_, ld0, ?_⟩; conv => whnf)
                | (refine ⟨st, hsl, ld, ?_⟩; conv => whnf)
                | ((with_reducible refine regx_of ?_ ?_); (· decide +kernel); conv => whnf)
                | ((with_reducible refine growx_pre ?_ ?_); (· exact ⟨_, rfl⟩); conv => whnf)
                | ((with_reducible refine needm_of ?_ ?_); (· first | assumption | exact decide_eq_true (by omega) | exact mkOK_of (by decide) | decide +kernel | (refine decide_eq_true ?_; simp (disch := omega) only [i64w]; omega)); conv => whnf)
                | ((with_reducible refine condm_pos ?_ ?_); (· assumption); conv => whnf)
                | ((with_reducible refine condm_neg ?_ ?_); (· assumption); conv => whnf)
                | ((with_reducible refine forceL_fv (by assumption) ?_); conv => whnf)
                | ((with_reducible refine forceL_rfv (by assumption) ?_); conv => whnf)
                | ((with_reducible refine forceNm_of ?_); conv => whnf)
                | ((with_reducible refine needm_of (fv_lenL (by assumption) (by assumption)) ?_); conv => whnf)
                | ((with_reducible refine optm_var (fv_strL (by assumption) (by assumption)) (fun s hs => ?_)); conv => whnf)
                | ((with_reducible refine forceA_of ?_); conv => whnf)
                | ((with_reducible refine forceL_pl (by assumption) ?_); conv => whnf)
                | ((with_reducible refine forceL_rpl (by assumption) ?_); conv => whnf)
                | fail)
              refine Go.Eng.Fn.frame [4, 10] (by rfl) (by exact ⟨rfl, ren_pl q1 _ _ _, trivial⟩) (by simp [nodupb, V.okb, A.okb, Ob.okb, q1.2] <;> decide) (len14 room n' y1 z1 q1 false ?_)
              refine growx_pre (by simp [plugL, Ob.ren, q1.1, A.ren, frD]) ?_
              conv => whnf
              repeat' (first
                | (refine ⟨_, ld0, ?_⟩; conv => whnf)
                | (refine ⟨st, hsl, ld, ?_⟩; conv => whnf)
                | ((with_reducible refine regx_of ?_ ?_); (· decide +kernel); conv => whnf)
                | ((with_reducible refine growx_pre ?_ ?_); (· exact ⟨_, rfl⟩); conv => whnf)
                | ((with_reducible refine needm_of ?_ ?_); (· first | assumption | exact decide_eq_true (by omega) | exact mkOK_of (by decide) | decide +kernel | (refine decide_eq_true ?_; simp (disch := omega) only [i64w]; omega)); conv => whnf)
                | ((with_reducible refine condm_pos ?_ ?_); (· assumption); conv => whnf)
                | ((with_reducible refine condm_neg ?_ ?_); (· assumption); conv => whnf)
                | ((with_reducible refine forceL_fv (by assumption) ?_); conv => whnf)
                | ((with_reducible refine forceL_rfv (by assumption) ?_); conv => whnf)
                | ((with_reducible refine forceNm_of ?_); conv => whnf)
                | ((with_reducible refine needm_of (fv_lenL (by assumption) (by assumption)) ?_); conv => whnf)
                | ((with_reducible refine optm_var (fv_strL (by assumption) (by assumption)) (fun s hs => ?_)); conv => whnf)
                | ((with_reducible refine forceA_of ?_); conv => whnf)
                | ((with_reducible refine forceL_pl (by assumption) ?_); conv => whnf)
                | ((with_reducible refine forceL_rpl (by assumption) ?_); conv => whnf)
                | fail)
              exact ⟨len - (i + 1), by omega, Into.weak [0, 1, 2, 3, 4, 10, 6, 7, 8, 9] [(1, .a (.rslc p len cap)), (5, .a (.slc 8 0 2 c)), (6, .a (.slc 9 0 2 c')), (12, .a (.int .i64 ((i + 1 : Nat) : Int)))] [.cells [.int .i64 room, .slc 1 0 n1 a1] 57 false, .cells x1 61 m1, .cells [.int .i64 room, .slc 3 0 n1 a2] 47 false, .cells x2 69 m2, .cells [.int .i64 room, .slc 5 0 n' y1] 57 false, .cells z1 61 false, .cells [.int .i64 room, .slc 7 0 n' y2] 47 false, .cells z2 69 m4, .cells (.ptr 0 0 :: .ptr 4 0 :: ns) 24 false, .cells (.ptr 2 0 :: .ptr 6 0 :: ms) 41 false] ⟨i + 1, L1, L', n1, n', a1, a2, y1, y2, x1, x2, z1, z2, m1, m2, false, m4, by omega, rfl, e1, eL, r1, rL, N1, N2, M1, M2, rfl, rfl⟩ ⟨rfl, rfl, rfl, congrArg (fun z => some (V.a (.int .i64 z))) hw, trivial⟩ ⟨rfl, ren_pl h1 _ _ _, rfl, ren_pl h2 _ _ _, rfl, ren_pl q1 _ _ _, rfl, ren_pl q2 _ _ _, congrArg (fun l => some (Ob.cells (.ptr 0 0 :: .ptr 4 0 :: l) 24 false)) (pn.1 _).symm, congrArg (fun l => some (Ob.cells (.ptr 2 0 :: .ptr 6 0 :: l) 41 false)) (pm.1 _).symm, trivial⟩ (by simp [nodupb, baseb, Ob.okb, frmOk, V.okb, A.okb, h1.2, h2.2, q1.2, q2.2, pn.2, pm.2] <;> decide)⟩
            · have q1 := M1.pl
              have q2 := M2.pl
              have c9 : ((n' : Int) != (n' : Int)) = false := by simp
              conv => whnf
              repeat' (first
                | (refine ⟨_, ld0, ?_⟩; conv => whnf)
                | (refine ⟨st, hsl, ld, ?_⟩; conv => whnf)
                | ((with_reducible refine regx_of ?_ ?_); (· decide +kernel); conv => whnf)
                | ((with_reducible refine growx_pre ?_ ?_); (· exact ⟨_, rfl⟩); conv => whnf)
                | ((with_reducible refine needm_of ?_ ?_); (· first | assumption | exact decide_eq_true (by omega) | exact mkOK_of (by decide) | decide +kernel | (refine decide_eq_true ?_; simp (disch := omega) only [i64w]; omega)); conv => whnf)
                | ((with_reducible refine condm_pos ?_ ?_); (· assumption); conv => whnf)
                | ((with_reducible refine condm_neg ?_ ?_); (· assumption); conv => whnf)
                | ((with_reducible refine forceL_fv (by assumption) ?_); conv => whnf)
                | ((with_reducible refine forceL_rfv (by assumption) ?_); conv => whnf)
                | ((with_reducible refine forceNm_of ?_); conv => whnf)
                | ((with_reducible refine needm_of (fv_lenL (by assumption) (by assumption)) ?_); conv => whnf)
                | ((with_reducible refine optm_var (fv_strL (by assumption) (by assumption)) (fun s hs => ?_)); conv => whnf)
                | ((with_reducible refine forceA_of ?_); conv => whnf)
                | ((with_reducible refine forceL_pl (by assumption) ?_); conv => whnf)
                | ((with_reducible refine forceL_rpl (by assumption) ?_); conv => whnf)
                | fail)
              refine Go.Eng.Fn.frame [4, 5] (by rfl) (by exact ⟨rfl, ren_pl q1 _ _ _, trivial⟩) (by simp [nodupb, V.okb, A.okb, Ob.okb, q1.2] <;> decide) (len14 room n' y1 z1 q1 m3 ?_)
              refine growx_pre (by simp [plugL, Ob.ren, q1.1, A.ren, frD]) ?_
              conv => whnf
              repeat' (first
                | (refine ⟨_, ld0, ?_⟩; conv => whnf)
                | (refine ⟨st, hsl, ld, ?_⟩; conv => whnf)
                | ((with_reducible refine regx_of ?_ ?_); (· decide +kernel); conv => whnf)
                | ((with_reducible refine growx_pre ?_ ?_); (· exact ⟨_, rfl⟩); conv => whnf)
                | ((with_reducible refine needm_of ?_ ?_); (· first | assumption | exact decide_eq_true (by omega) | exact mkOK_of (by decide) | decide +kernel | (refine decide_eq_true ?_; simp (disch := omega) only [i64w]; omega)); conv => whnf)
                | ((with_reducible refine condm_pos ?_ ?_); (· assumption); conv => whnf)
                | ((with_reducible refine condm_neg ?_ ?_); (· assumption); conv => whnf)
                | ((with_reducible refine forceL_fv (by assumption) ?_); conv => whnf)
                | ((with_reducible refine forceL_rfv (by assumption) ?_); conv => whnf)
                | ((with_reducible refine forceNm_of ?_); conv => whnf)
                | ((with_reducible refine needm_of (fv_lenL (by assumption) (by assumption)) ?_); conv => whnf)
                | ((with_reducible refine optm_var (fv_strL (by assumption) (by assumption)) (fun s hs => ?_)); conv => whnf)
                | ((with_reducible refine forceA_of ?_); conv => whnf)
                | ((with_reducible refine forceL_pl (by assumption) ?_); conv => whnf)
                | ((with_reducible refine forceL_rpl (by assumption) ?_); conv => whnf)
                | fail)
              exact ⟨len - (i + 1), by omega, Into.weak [0, 1, 2, 3, 4, 5, 6, 10, 8, 9] [(1, .a (.rslc p len cap)), (5, .a (.slc 8 0 2 c)), (6, .a (.slc 9 0 2 c')), (12, .a (.int .i64 ((i + 1 : Nat) : Int)))] [.cells [.int .i64 room, .slc 1 0 n1 a1] 57 false, .cells x1 61 m1, .cells [.int .i64 room, .slc 3 0 n1 a2] 47 false, .cells x2 69 m2, .cells [.int .i64 room, .slc 5 0 n' y1] 57 false, .cells z1 61 m3, .cells [.int .i64 room, .slc 7 0 n' y2] 47 false, .cells z2 69 mk', .cells (.ptr 0 0 :: .ptr 4 0 :: ns) 24 false, .cells (.ptr 2 0 :: .ptr 6 0 :: ms) 41 false] ⟨i + 1, L1, L', n1, n', a1, a2, y1, y2, x1, x2, z1, z2, m1, m2, m3, mk', by omega, rfl, e1, eL, r1, rL, N1, N2, M1, M2, rfl, rfl⟩ ⟨rfl, rfl, rfl, congrArg (fun z => some (V.a (.int .i64 z))) hw, trivial⟩ ⟨rfl, ren_pl h1 _ _ _, rfl, ren_pl h2 _ _ _, rfl, ren_pl q1 _ _ _, rfl, ren_pl q2 _ _ _, congrArg (fun l => some (Ob.cells (.ptr 0 0 :: .ptr 4 0 :: l) 24 false)) (pn.1 _).symm, congrArg (fun l => some (Ob.cells (.ptr 2 0 :: .ptr 6 0 :: l) 41 false)) (pm.1 _).symm, trivial⟩ (by simp [nodupb, baseb, Ob.okb, frmOk, V.okb, A.okb, h1.2, h2.2, q1.2, q2.2, pn.2, pm.2] <;> decide)⟩
            · have q1 := M1.pl
              have q2 := M2.pl
              have c9 : ((n' : Int) != (n' : Int)) = false := by simp
              conv => whnf
              repeat' (first
                | (refine ⟨_, ld0, ?_⟩; conv => whnf)
                | (refine ⟨st, hsl, ld, ?_⟩; conv => whnf)
                | ((with_reducible refine regx_of ?_ ?_); (· decide +kernel); conv => whnf)
                | ((with_reducible refine growx_pre ?_ ?_); (· exact ⟨_, rfl⟩); conv => whnf)
                | ((with_reducible refine needm_of ?_ ?_); (· first | assumption | exact decide_eq_true (by omega) | exact mkOK_of (by decide) | decide +kernel | (refine decide_eq_true ?_; simp (disch := omega) only [i64w]; omega)); conv => whnf)
                | ((with_reducible refine condm_pos ?_ ?_); (· assumption); conv => whnf)
                | ((with_reducible refine condm_neg ?_ ?_); (· assumption); conv => whnf)
                | ((with_reducible refine forceL_fv (by assumption) ?_); conv => whnf)
                | ((with_reducible refine forceL_rfv (by assumption) ?_); conv => whnf)
                | ((with_reducible refine forceNm_of ?_); conv => whnf)
                | ((with_reducible refine needm_of (fv_lenL (by assumption) (by assumption)) ?_); conv => whnf)
                | ((with_reducible refine optm_var (fv_strL (by assumption) (by assumption)) (fun s hs => ?_)); conv => whnf)
                | ((with_reducible refine forceA_of ?_); conv => whnf)
                | ((with_reducible refine forceL_pl (by assumption) ?_); conv => whnf)
                | ((with_reducible refine forceL_rpl (by assumption) ?_); conv => whnf)
                | fail)
              refine Go.Eng.Fn.frame [4, 11] (by rfl) (by exact ⟨rfl, ren_pl q1 _ _ _, trivial⟩) (by simp [nodupb, V.okb, A.okb, Ob.okb, q1.2] <;> decide) (len14 room n' y1 z1 q1 false ?_)
              refine growx_pre (by simp [plugL, Ob.ren, q1.1, A.ren, frD]) ?_
              conv => whnf
              repeat' (first
                | (refine ⟨_, ld0, ?_⟩; conv => whnf)
                | (refine ⟨st, hsl, ld, ?_⟩; conv => whnf)
                | ((with_reducible refine regx_of ?_ ?_); (· decide +kernel); conv => whnf)
                | ((with_reducible refine growx_pre ?_ ?_); (· exact ⟨_, rfl⟩); conv => whnf)
                | ((with_reducible refine needm_of ?_ ?_); (· first | assumption | exact decide_eq_true (by omega) | exact mkOK_of (by decide) | decide +kernel | (refine decide_eq_true ?_; simp (disch := omega) only [i64w]; omega)); conv => whnf)
                | ((with_reducible refine condm_pos ?_ ?_); (· assumption); conv => whnf)
                | ((with_reducible refine condm_neg ?_ ?_); (· assumption); conv => whnf)
                | ((with_reducible refine forceL_fv (by assumption) ?_); conv => whnf)
                | ((with_reducible refine forceL_rfv (by assumption) ?_); conv => whnf)
                | ((with_reducible refine forceNm_of ?_); conv => whnf)
                | ((with_reducible refine needm_of (fv_lenL (by assumption) (by assumption)) ?_); conv => whnf)
                | ((with_reducible refine optm_var (fv_strL (by assumption) (by assumption)) (fun s hs => ?_)); conv => whnf)
                | ((with_reducible refine forceA_of ?_); conv => whnf)
                | ((with_reducible refine forceL_pl (by assumption) ?_); conv => whnf)
                | ((with_reducible refine forceL_rpl (by assumption) ?_); conv => whnf)
                | fail)
              exact ⟨len - (i + 1), by omega, Into.weak [0, 1, 2, 3, 4, 11, 6, 10, 8, 9] [(1, .a (.rslc p len cap)), (5, .a (.slc 8 0 2 c)), (6, .a (.slc 9 0 2 c')), (12, .a (.int .i64 ((i + 1 : Nat) : Int)))] [.cells [.int .i64 room, .slc 1 0 n1 a1] 57 false, .cells x1 61 m1, .cells [.int .i64 room, .slc 3 0 n1 a2] 47 false, .cells x2 69 m2, .cells [.int .i64 room, .slc 5 0 n' y1] 57 false, .cells z1 61 false, .cells [.int .i64 room, .slc 7 0 n' y2] 47 false, .cells z2 69 mk', .cells (.ptr 0 0 :: .ptr 4 0 :: ns) 24 false, .cells (.ptr 2 0 :: .ptr 6 0 :: ms) 41 false] ⟨i + 1, L1, L', n1, n', a1, a2, y1, y2, x1, x2, z1, z2, m1, m2, false, mk', by omega, rfl, e1, eL, r1, rL, N1, N2, M1, M2, rfl, rfl⟩ ⟨rfl, rfl, rfl, congrArg (fun z => some (V.a (.int .i64 z))) hw, trivial⟩ ⟨rfl, ren_pl h1 _ _ _, rfl, ren_pl h2 _ _ _, rfl, ren_pl q1 _ _ _, rfl, ren_pl q2 _ _ _, congrArg (fun l => some (Ob.cells (.ptr 0 0 :: .ptr 4 0 :: l) 24 false)) (pn.1 _).symm, congrArg (fun l => some (Ob.cells (.ptr 2 0 :: .ptr 6 0 :: l) 41 false)) (pm.1 _).symm, trivial⟩ (by simp [nodupb, baseb, Ob.okb, frmOk, V.okb, A.okb, h1.2, h2.2, q1.2, q2.2, pn.2, pm.2] <;> decide)⟩
          ·
            conv => whnf
            repeat' (first
              | (refine ⟨_, ld0, ?_⟩; conv => whnf)
              | (refine ⟨st, hsl, ld, ?_⟩; conv => whnf)
              | ((with_reducible refine regx_of ?_ ?_); (· decide +kernel); conv => whnf)
              | ((with_reducible refine growx_pre ?_ ?_); (· exact ⟨_, rfl⟩); conv => whnf)
              | ((with_reducible refine needm_of ?_ ?_); (· first | assumption | exact decide_eq_true (by omega) | exact mkOK_of (by decide) | decide +kernel | (refine decide_eq_true ?_; simp (disch := omega) only [i64w]; omega)); conv => whnf)
              | ((with_reducible refine condm_pos ?_ ?_); (· assumption); conv => whnf)
              | ((with_reducible refine condm_neg ?_ ?_); (· assumption); conv => whnf)
              | ((with_reducible refine forceL_fv (by assumption) ?_); conv => whnf)
              | ((with_reducible refine forceL_rfv (by assumption) ?_); conv => whnf)
              | ((with_reducible refine forceNm_of ?_); conv => whnf)
              | ((with_reducible refine needm_of (fv_lenL (by assumption) (by assumption)) ?_); conv => whnf)
              | ((with_reducible refine optm_var (fv_strL (by assumption) (by assumption)) (fun s hs => ?_)); conv => whnf)
              | ((with_reducible refine forceA_of ?_); conv => whnf)
              | ((with_reducible refine forceL_pl (by assumption) ?_); conv => whnf)
              | ((with_reducible refine forceL_rpl (by assumption) ?_); conv => whnf)
              | fail)
            subst e1
            refine Go.Eng.Fn.frame [0, 1, 2, 3] (by show [_, _, V.g (st.map (A.ren _))] = _; rw [hsp.1]; rfl) (by exact ⟨rfl, ren_pl h1 _ _ _, rfl, ren_pl h2 _ _ _, trivial⟩) (by simp [nodupb, V.okb, A.okb, Ob.okb, hsp.2, h1.2, h2.2] <;> decide) (step19 room hr2 L1 a1 a2 x1 x2 m1 m2 r1 N1 N2 st who kd I J fr to s hst (fun L' n' y1 y2 z1 z2 eL rL M1 M2 => ?_) (fun L' n' y1 y2 z1 z2 eL rL M1 M2 => ?_) (fun L' n' y1 y2 z1 z2 mk' eL rL M1 M2 => ?_) (fun L' n' y1 y2 z1 z2 mk' eL rL M1 M2 => ?_))
            · have q1 := M1.pl
              have q2 := M2.pl
              have c9 : ((n' : Int) != (n' : Int)) = false := by simp
              conv => whnf
              repeat' (first
                | (refine ⟨_, ld0, ?_⟩; conv => whnf)
                | (refine ⟨st, hsl, ld, ?_⟩; conv => whnf)
                | ((with_reducible refine regx_of ?_ ?_); (· decide +kernel); conv => whnf)
                | ((with_reducible refine growx_pre ?_ ?_); (· exact ⟨_, rfl⟩); conv => whnf)
                | ((with_reducible refine needm_of ?_ ?_); (· first | assumption | exact decide_eq_true (by omega) | exact mkOK_of (by decide) | decide +kernel | (refine decide_eq_true ?_; simp (disch := omega) only [i64w]; omega)); conv => whnf)
                | ((with_reducible refine condm_pos ?_ ?_); (· assumption); conv => whnf)
                | ((with_reducible refine condm_neg ?_ ?_); (· assumption); conv => whnf)
                | ((with_reducible refine forceL_fv (by assumption) ?_); conv => whnf)
                | ((with_reducible refine forceL_rfv (by assumption) ?_); conv => whnf)
                | ((with_reducible refine forceNm_of ?_); conv => whnf)
                | ((with_reducible refine needm_of (fv_lenL (by assumption) (by assumption)) ?_); conv => whnf)
                | ((with_reducible refine optm_var (fv_strL (by assumption) (by assumption)) (fun s hs => ?_)); conv => whnf)
                | ((with_reducible refine forceA_of ?_); conv => whnf)
                | ((with_reducible refine forceL_pl (by assumption) ?_); conv => whnf)
                | ((with_reducible refine forceL_rpl (by assumption) ?_); conv => whnf)
                | fail)
              refine Go.Eng.Fn.frame [0, 1] (by rfl) (by exact ⟨rfl, ren_pl q1 _ _ _, trivial⟩) (by simp [nodupb, V.okb, A.okb, Ob.okb, q1.2] <;> decide) (len14 room n' y1 z1 q1 m1 ?_)
              refine growx_pre (by simp [plugL, Ob.ren, q1.1, A.ren, frD]) ?_
              conv => whnf
              repeat' (first
                | (refine ⟨_, ld0, ?_⟩; conv => whnf)
                | (refine ⟨st, hsl, ld, ?_⟩; conv => whnf)
                | ((with_reducible refine regx_of ?_ ?_); (· decide +kernel); conv => whnf)
                | ((with_reducible refine growx_pre ?_ ?_); (· exact ⟨_, rfl⟩); conv => whnf)
                | ((with_reducible refine needm_of ?_ ?_); (· first | assumption | exact decide_eq_true (by omega) | exact mkOK_of (by decide) | decide +kernel | (refine decide_eq_true ?_; simp (disch := omega) only [i64w]; omega)); conv => whnf)
                | ((with_reducible refine condm_pos ?_ ?_); (· assumption); conv => whnf)
                | ((with_reducible refine condm_neg ?_ ?_); (· assumption); conv => whnf)
                | ((with_reducible refine forceL_fv (by assumption) ?_); conv => whnf)
                | ((with_reducible refine forceL_rfv (by assumption) ?_); conv => whnf)
                | ((with_reducible refine forceNm_of ?_); conv => whnf)
                | ((with_reducible refine needm_of (fv_lenL (by assumption) (by assumption)) ?_); conv => whnf)
                | ((with_reducible refine optm_var (fv_strL (by assumption) (by assumption)) (fun s hs => ?_)); conv => whnf)
                | ((with_reducible refine forceA_of ?_); conv => whnf)
                | ((with_reducible refine forceL_pl (by assumption) ?_); conv => whnf)
                | ((with_reducible refine forceL_rpl (by assumption) ?_); conv => whnf)
                | fail)
              exact ⟨len - (i + 1), by omega, Into.weak [0, 1, 2, 3, 4, 5, 6, 7, 8, 9] [(1, .a (.rslc p len cap)), (5, .a (.slc 8 0 2 c)), (6, .a (.slc 9 0 2 c')), (12, .a (.int .i64 ((i + 1 : Nat) : Int)))] [.cells [.int .i64 room, .slc 1 0 n' y1] 57 false, .cells z1 61 m1, .cells [.int .i64 room, .slc 3 0 n' y2] 47 false, .cells z2 69 m2, .cells [.int .i64 room, .slc 5 0 n2 a3] 57 false, .cells x3 61 m3, .cells [.int .i64 room, .slc 7 0 n2 a4] 47 false, .cells x4 69 m4, .cells (.ptr 0 0 :: .ptr 4 0 :: ns) 24 false, .cells (.ptr 2 0 :: .ptr 6 0 :: ms) 41 false] ⟨i + 1, L', L2, n', n2, y1, y2, a3, a4, z1, z2, x3, x4, m1, m2, m3, m4, by omega, rfl, eL, e2, rL, r2, M1, M2, N3, N4, rfl, rfl⟩ ⟨rfl, rfl, rfl, congrArg (fun z => some (V.a (.int .i64 z))) hw, trivial⟩ ⟨rfl, ren_pl q1 _ _ _, rfl, ren_pl q2 _ _ _, rfl, ren_pl h3 _ _ _, rfl, ren_pl h4 _ _ _, congrArg (fun l => some (Ob.cells (.ptr 0 0 :: .ptr 4 0 :: l) 24 false)) (pn.1 _).symm, congrArg (fun l => some (Ob.cells (.ptr 2 0 :: .ptr 6 0 :: l) 41 false)) (pm.1 _).symm, trivial⟩ (by simp [nodupb, baseb, Ob.okb, frmOk, V.okb, A.okb, q1.2, q2.2, h3.2, h4.2, pn.2, pm.2] <;> decide)⟩
            · have q1 := M1.pl
              have q2 := M2.pl
              have c9 : ((n' : Int) != (n' : Int)) = false := by simp
              conv => whnf
              repeat' (first
                | (refine ⟨_, ld0, ?_⟩; conv => whnf)
                | (refine ⟨st, hsl, ld, ?_⟩; conv => whnf)
                | ((with_reducible refine regx_of ?_ ?_); (· decide +kernel); conv => whnf)
                | ((with_reducible refine growx_pre ?_ ?_); (· exact ⟨_, rfl⟩); conv => whnf)
                | ((with_reducible refine needm_of ?_ ?_); (· first | assumption | exact decide_eq_true (by omega) | exact mkOK_of (by decide) | decide +kernel | (refine decide_eq_true ?_; simp (disch := omega) only [i64w]; omega)); conv => whnf)
                | ((with_reducible refine condm_pos ?_ ?_); (· assumption); conv => whnf)
                | ((with_reducible refine condm_neg ?_ ?_); (· assumption); conv => whnf)
                | ((with_reducible refine forceL_fv (by assumption) ?_); conv => whnf)
                | ((with_reducible refine forceL_rfv (by assumption) ?_); conv => whnf)
                | ((with_reducible refine forceNm_of ?_); conv => whnf)
                | ((with_reducible refine needm_of (fv_lenL (by assumption) (by assumption)) ?_); conv => whnf)
                | ((with_reducible refine optm_var (fv_strL (by assumption) (by assumption)) (fun s hs => ?_)); conv => whnf)
                | ((with_reducible refine forceA_of ?_); conv => whnf)
                | ((with_reducible refine forceL_pl (by assumption) ?_); conv => whnf)
                | ((with_reducible refine forceL_rpl (by assumption) ?_); conv => whnf)
                | fail)
              refine Go.Eng.Fn.frame [0, 10] (by rfl) (by exact ⟨rfl, ren_pl q1 _ _ _, trivial⟩) (by simp [nodupb, V.okb, A.okb, Ob.okb, q1.2] <;> decide) (len14 room n' y1 z1 q1 false ?_)
              refine growx_pre (by simp [plugL, Ob.ren, q1.1, A.ren, frD]) ?_
              conv => whnf
              repeat' (first
                | (refine ⟨_, ld0, ?_⟩; conv => whnf)
                | (refine ⟨st, hsl, ld, ?_⟩; conv => whnf)
                | ((with_reducible refine regx_of ?_ ?_); (· decide +kernel); conv => whnf)
                | ((with_reducible refine growx_pre ?_ ?_); (· exact ⟨_, rfl⟩); conv => whnf)
                | ((with_reducible refine needm_of ?_ ?_); (· first | assumption | exact decide_eq_true (by omega) | exact mkOK_of (by decide) | decide +kernel | (refine decide_eq_true ?_; simp (disch := omega) only [i64w]; omega)); conv => whnf)
                | ((with_reducible refine condm_pos ?_ ?_); (· assumption); conv => whnf)
                | ((with_reducible refine condm_neg ?_ ?_); (· assumption); conv => whnf)
                | ((with_reducible refine forceL_fv (by assumption) ?_); conv => whnf)
                | ((with_reducible refine forceL_rfv (by assumption) ?_); conv => whnf)
                | ((with_reducible refine forceNm_of ?_); conv => whnf)
                | ((with_reducible refine needm_of (fv_lenL (by assumption) (by assumption)) ?_); conv => whnf)
                | ((with_reducible refine optm_var (fv_strL (by assumption) (by assumption)) (fun s hs => ?_)); conv => whnf)
                | ((with_reducible refine forceA_of ?_); conv => whnf)
                | ((with_reducible refine forceL_pl (by assumption) ?_); conv => whnf)
                | ((with_reducible refine forceL_rpl (by assumption) ?_); conv => whnf)
                | fail)
              exact ⟨len - (i + 1), by omega, Into.weak [0, 10, 2, 3, 4, 5, 6, 7, 8, 9] [(1, .a (.rslc p len cap)), (5, .a (.slc 8 0 2 c)), (6, .a (.slc 9 0 2 c')), (12, .a (.int .i64 ((i + 1 : Nat) : Int)))] [.cells [.int .i64 room, .slc 1 0 n' y1] 57 false, .cells z1 61 false, .cells [.int .i64 room, .slc 3 0 n' y2] 47 false, .cells z2 69 m2, .cells [.int .i64 room, .slc 5 0 n2 a3] 57 false, .cells x3 61 m3, .cells [.int .i64 room, .slc 7 0 n2 a4] 47 false, .cells x4 69 m4, .cells (.ptr 0 0 :: .ptr 4 0 :: ns) 24 false, .cells (.ptr 2 0 :: .ptr 6 0 :: ms) 41 false] ⟨i + 1, L', L2, n', n2, y1, y2, a3, a4, z1, z2, x3, x4, false, m2, m3, m4, by omega, rfl, eL, e2, rL, r2, M1, M2, N3, N4, rfl, rfl⟩ ⟨rfl, rfl, rfl, congrArg (fun z => some (V.a (.int .i64 z))) hw, trivial⟩ ⟨rfl, ren_pl q1 _ _ _, rfl, ren_pl q2 _ _ _, rfl, ren_pl h3 _ _ _, rfl, ren_pl h4 _ _ _, congrArg (fun l => some (Ob.cells (.ptr 0 0 :: .ptr 4 0 :: l) 24 false)) (pn.1 _).symm, congrArg (fun l => some (Ob.cells (.ptr 2 0 :: .ptr 6 0 :: l) 41 false)) (pm.1 _).symm, trivial⟩ (by simp [nodupb, baseb, Ob.okb, frmOk, V.okb, A.okb, q1.2, q2.2, h3.2, h4.2, pn.2, pm.2] <;> decide)⟩
            · have q1 := M1.pl
              have q2 := M2.pl
              have c9 : ((n' : Int) != (n' : Int)) = false := by simp
              conv => whnf
              repeat' (first
                | (refine ⟨_, ld0, ?_⟩; conv => whnf)
                | (refine ⟨st, hsl, ld, ?_⟩; conv => whnf)
                | ((with_reducible refine regx_of ?_ ?_); (· decide +kernel); conv => whnf)
                | ((with_reducible refine growx_pre ?_ ?_); (· exact ⟨_, rfl⟩); conv => whnf)
                | ((with_reducible refine needm_of ?_ ?_); (· first | assumption | exact decide_eq_true (by omega) | exact mkOK_of (by decide) | decide +kernel | (refine decide_eq_true ?_; simp (disch := omega) only [i64w]; omega)); conv => whnf)
                | ((with_reducible refine condm_pos ?_ ?_); (· assumption); conv => whnf)
                | ((with_reducible refine condm_neg ?_ ?_); (· assumption); conv => whnf)
                | ((with_reducible refine forceL_fv (by assumption) ?_); conv => whnf)
                | ((with_reducible refine forceL_rfv (by assumption) ?_); conv => whnf)
                | ((with_reducible refine forceNm_of ?_); conv => whnf)
                | ((with_reducible refine needm_of (fv_lenL (by assumption) (by assumption)) ?_); conv => whnf)
                | ((with_reducible refine optm_var (fv_strL (by assumption) (by assumption)) (fun s hs => ?_)); conv => whnf)
                | ((with_reducible refine forceA_of ?_); conv => whnf)
                | ((with_reducible refine forceL_pl (by assumption) ?_); conv => whnf)
                | ((with_reducible refine forceL_rpl (by assumption) ?_); conv => whnf)
                | fail)
              refine Go.Eng.Fn.frame [0, 1] (by rfl) (by exact ⟨rfl, ren_pl q1 _ _ _, trivial⟩) (by simp [nodupb, V.okb, A.okb, Ob.okb, q1.2] <;> decide) (len14 room n' y1 z1 q1 m1 ?_)
              refine growx_pre (by simp [plugL, Ob.ren, q1.1, A.ren, frD]) ?_
              conv => whnf
              repeat' (first
                | (refine ⟨_, ld0, ?_⟩; conv => whnf)
                | (refine ⟨st, hsl, ld, ?_⟩; conv => whnf)
                | ((with_reducible refine regx_of ?_ ?_); (· decide +kernel); conv => whnf)
                | ((with_reducible refine growx_pre ?_ ?_); (· exact ⟨_, rfl⟩); conv => whnf)
                | ((with_reducible refine needm_of ?_ ?_); (· first | assumption | exact decide_eq_true (by omega) | exact mkOK_of (by decide) | decide +kernel | (refine decide_eq_true ?_; simp (disch := omega) only [i64w]; omega)); conv => whnf)
                | ((with_reducible refine condm_pos ?_ ?_); (· assumption); conv => whnf)
                | ((with_reducible refine condm_neg ?_ ?_); (· assumption); conv => whnf)
                | ((with_reducible refine forceL_fv (by assumption) ?_); conv => whnf)
                | ((with_reducible refine forceL_rfv (by assumption) ?_); conv => whnf)
                | ((with_reducible refine forceNm_of ?_); conv => whnf)
                | ((with_reducible refine needm_of (fv_lenL (by assumption) (by assumption)) ?_); conv => whnf)
                | ((with_reducible refine optm_var (fv_strL (by assumption) (by assumption)) (fun s hs => ?_)); conv => whnf)
                | ((with_reducible refine forceA_of ?_); conv => whnf)
                | ((with_reducible refine forceL_pl (by assumption) ?_); conv => whnf)
                | ((with_reducible refine forceL_rpl (by assumption) ?_); conv => whnf)
                | fail)
              exact ⟨len - (i + 1), by omega, Into.weak [0, 1, 2, 10, 4, 5, 6, 7, 8, 9] [(1, .a (.rslc p len cap)), (5, .a (.slc 8 0 2 c)), (6, .a (.slc 9 0 2 c')), (12, .a (.int .i64 ((i + 1 : Nat) : Int)))] [.cells [.int .i64 room, .slc 1 0 n' y1] 57 false, .cells z1 61 m1, .cells [.int .i64 room, .slc 3 0 n' y2] 47 false, .cells z2 69 mk', .cells [.int .i64 room, .slc 5 0 n2 a3] 57 false, .cells x3 61 m3, .cells [.int .i64 room, .slc 7 0 n2 a4] 47 false, .cells x4 69 m4, .cells (.ptr 0 0 :: .ptr 4 0 :: ns) 24 false, .cells (.ptr 2 0 :: .ptr 6 0 :: ms) 41 false] ⟨i + 1, L', L2, n', n2, y1, y2, a3, a4, z1, z2, x3, x4, m1, mk', m3, m4, by omega, rfl, eL, e2, rL, r2, M1, M2, N3, N4, rfl, rfl⟩ ⟨rfl, rfl, rfl, congrArg (fun z => some (V.a (.int .i64 z))) hw, trivial⟩ ⟨rfl, ren_pl q1 _ _ _, rfl, ren_pl q2 _ _ _, rfl, ren_pl h3 _ _ _, rfl, ren_pl h4 _ _ _, congrArg (fun l => some (Ob.cells (.ptr 0 0 :: .ptr 4 0 :: l) 24 false)) (pn.1 _).symm, congrArg (fun l => some (Ob.cells (.ptr 2 0 :: .ptr 6 0 :: l) 41 false)) (pm.1 _).symm, trivial⟩ (by simp [nodupb, baseb, Ob.okb, frmOk, V.okb, A.okb, q1.2, q2.2, h3.2, h4.2, pn.2, pm.2] <;> decide)⟩
            · have q1 := M1.pl
              have q2 := M2.pl
              have c9 : ((n' : Int) != (n' : Int)) = false := by simp
              conv => whnf
              repeat' (first
                | (refine ⟨_, ld0, ?_⟩; conv => whnf)
                | (refine ⟨st, hsl, ld, ?_⟩; conv => whnf)
                | ((with_reducible refine regx_of ?_ ?_); (· decide +kernel); conv => whnf)
                | ((with_reducible refine growx_pre ?_ ?_); (· exact ⟨_, rfl⟩); conv => whnf)
                | ((with_reducible refine needm_of ?_ ?_); (· first | assumption | exact decide_eq_true (by omega) | exact mkOK_of (by decide) | decide +kernel | (refine decide_eq_true ?_; simp (disch := omega) only [i64w]; omega)); conv => whnf)
                | ((with_reducible refine condm_pos ?_ ?_); (· assumption); conv => whnf)
                | ((with_reducible refine condm_neg ?_ ?_); (· assumption); conv => whnf)
                | ((with_reducible refine forceL_fv (by assumption) ?_); conv => whnf)
                | ((with_reducible refine forceL_rfv (by assumption) ?_); conv => whnf)
                | ((with_reducible refine forceNm_of ?_); conv => whnf)
                | ((with_reducible refine needm_of (fv_lenL (by assumption) (by assumption)) ?_); conv => whnf)
                | ((with_reducible refine optm_var (fv_strL (by assumption) (by assumption)) (fun s hs => ?_)); conv => whnf)
                | ((with_reducible refine forceA_of ?_); conv => whnf)
                | ((with_reducible refine forceL_pl (by assumption) ?_); conv => whnf)
                | ((with_reducible refine forceL_rpl (by assumption) ?_); conv => whnf)
                | fail)
              refine Go.Eng.Fn.frame [0, 11] (by rfl) (by exact ⟨rfl, ren_pl q1 _ _ _, trivial⟩) (by simp [nodupb, V.okb, A.okb, Ob.okb, q1.2] <;> decide) (len14 room n' y1 z1 q1 false ?_)
              refine growx_pre (by simp [plugL, Ob.ren, q1.1, A.ren, frD]) ?_
              conv => whnf
              repeat' (first
                | (refine ⟨_, ld0, ?_⟩; conv => whnf)
                | (refine ⟨st, hsl, ld, ?_⟩; conv => whnf)
                | ((with_reducible refine regx_of ?_ ?_); (· decide +kernel); conv => whnf)
                | ((with_reducible refine growx_pre ?_ ?_); (· exact ⟨_, rfl⟩); conv => whnf)
                | ((with_reducible refine needm_of ?_ ?_); (· first | assumption | exact decide_eq_true (by omega) | exact mkOK_of (by decide) | decide +kernel | (refine decide_eq_true ?_; simp (disch := omega) only [i64w]; omega)); conv => whnf)
                | ((with_reducible refine condm_pos ?_ ?_); (· assumption); conv => whnf)
                | ((with_reducible refine condm_neg ?_ ?_); (· assumption); conv => whnf)
                | ((with_reducible refine forceL_fv (by assumption) ?_); conv => whnf)
                | ((with_reducible refine forceL_rfv (by assumption) ?_); conv => whnf)
                | ((with_reducible refine forceNm_of ?_); conv => whnf)
                | ((with_reducible refine needm_of (fv_lenL (by assumption) (by assumption)) ?_); conv => whnf)
                | ((with_reducible refine optm_var (fv_strL (by assumption) (by assumption)) (fun s hs => ?_)); conv => whnf)
                | ((with_reducible refine forceA_of ?_); conv => whnf)
                | ((with_reducible refine forceL_pl (by assumption) ?_); conv => whnf)
                | ((with_reducible refine forceL_rpl (by assumption) ?_); conv => whnf)
                | fail)
              exact ⟨len - (i + 1), by omega, Into.weak [0, 11, 2, 10, 4, 5, 6, 7, 8, 9] [(1, .a (.rslc p len cap)), (5, .a (.slc 8 0 2 c)), (6, .a (.slc 9 0 2 c')), (12, .a (.int .i64 ((i + 1 : Nat) : Int)))] [.cells [.int .i64 room, .slc 1 0 n' y1] 57 false, .cells z1 61 false, .cells [.int .i64 room, .slc 3 0 n' y2] 47 false, .cells z2 69 mk', .cells [.int .i64 room, .slc 5 0 n2 a3] 57 false, .cells x3 61 m3, .cells [.int .i64 room, .slc 7 0 n2 a4] 47 false, .cells x4 69 m4, .cells (.ptr 0 0 :: .ptr 4 0 :: ns) 24 false, .cells (.ptr 2 0 :: .ptr 6 0 :: ms) 41 false] ⟨i + 1, L', L2, n', n2, y1, y2, a3, a4, z1, z2, x3, x4, false, mk', m3, m4, by omega, rfl, eL, e2, rL, r2, M1, M2, N3, N4, rfl, rfl⟩ ⟨rfl, rfl, rfl, congrArg (fun z => some (V.a (.int .i64 z))) hw, trivial⟩ ⟨rfl, ren_pl q1 _ _ _, rfl, ren_pl q2 _ _ _, rfl, ren_pl h3 _ _ _, rfl, ren_pl h4 _ _ _, congrArg (fun l => some (Ob.cells (.ptr 0 0 :: .ptr 4 0 :: l) 24 false)) (pn.1 _).symm, congrArg (fun l => some (Ob.cells (.ptr 2 0 :: .ptr 6 0 :: l) 41 false)) (pm.1 _).symm, trivial⟩ (by simp [nodupb, baseb, Ob.okb, frmOk, V.okb, A.okb, q1.2, q2.2, h3.2, h4.2, pn.2, pm.2] <;> decide)⟩
        ·
          conv => whnf
          repeat' (first
            | (refine ⟨_, ld0, ?_⟩; conv => whnf)
            | (refine ⟨st, hsl, ld, ?_⟩; conv => whnf)
            | ((with_reducible refine regx_of ?_ ?_); (· decide +kernel); conv => whnf)
            | ((with_reducible refine growx_pre ?_ ?_); (· exact ⟨_, rfl⟩); conv => whnf)
            | ((with_reducible refine needm_of ?_ ?_); (· first | assumption | exact decide_eq_true (by omega) | exact mkOK_of (by decide) | decide +kernel | (refine decide_eq_true ?_; simp (disch := omega) only [i64w]; omega)); conv => whnf)
            | ((with_reducible refine condm_pos ?_ ?_); (· assumption); conv => whnf)
            | ((with_reducible refine condm_neg ?_ ?_); (· assumption); conv => whnf)
            | ((with_reducible refine forceL_fv (by assumption) ?_); conv => whnf)
            | ((with_reducible refine forceL_rfv (by assumption) ?_); conv => whnf)
            | ((with_reducible refine forceNm_of ?_); conv => whnf)
            | ((with_reducible refine needm_of (fv_lenL (by assumption) (by assumption)) ?_); conv => whnf)
            | ((with_reducible refine optm_var (fv_strL (by assumption) (by assumption)) (fun s hs => ?_)); conv => whnf)
            | ((with_reducible refine forceA_of ?_); conv => whnf)
            | ((with_reducible refine forceL_pl (by assumption) ?_); conv => whnf)
            | ((with_reducible refine forceL_rpl (by assumption) ?_); conv => whnf)
            | fail)
          refine Go.Eng.Fn.frame [0, 1, 2, 3] (by rfl) (by exact ⟨rfl, ren_pl h1 _ _ _, rfl, ren_pl h2 _ _ _, trivial⟩) (by simp [nodupb, V.okb, A.okb, Ob.okb, h1.2, h2.2] <;> decide) (all20 room L1 n1 a1 a2 x1 x2 m1 m2 e1 (by omega) N1 N2 ?_)
          conv => whnf
          repeat' (first
            | (refine ⟨_, ld0, ?_⟩; conv => whnf)
            | (refine ⟨st, hsl, ld, ?_⟩; conv => whnf)
            | ((with_reducible refine regx_of ?_ ?_); (· decide +kernel); conv => whnf)
            | ((with_reducible refine growx_pre ?_ ?_); (· exact ⟨_, rfl⟩); conv => whnf)
            | ((with_reducible refine needm_of ?_ ?_); (· first | assumption | exact decide_eq_true (by omega) | exact mkOK_of (by decide) | decide +kernel | (refine decide_eq_true ?_; simp (disch := omega) only [i64w]; omega)); conv => whnf)
            | ((with_reducible refine condm_pos ?_ ?_); (· assumption); conv => whnf)
            | ((with_reducible refine condm_neg ?_ ?_); (· assumption); conv => whnf)
            | ((with_reducible refine forceL_fv (by assumption) ?_); conv => whnf)
            | ((with_reducible refine forceL_rfv (by assumption) ?_); conv => whnf)
            | ((with_reducible refine forceNm_of ?_); conv => whnf)
            | ((with_reducible refine needm_of (fv_lenL (by assumption) (by assumption)) ?_); conv => whnf)
            | ((with_reducible refine optm_var (fv_strL (by assumption) (by assumption)) (fun s hs => ?_)); conv => whnf)
            | ((with_reducible refine forceA_of ?_); conv => whnf)
            | ((with_reducible refine forceL_pl (by assumption) ?_); conv => whnf)
            | ((with_reducible refine forceL_rpl (by assumption) ?_); conv => whnf)
            | fail)
          refine Go.Eng.Fn.frame [4, 5, 6, 7] (by rfl) (by exact ⟨rfl, ren_pl h3 _ _ _, rfl, ren_pl h4 _ _ _, trivial⟩) (by simp [nodupb, V.okb, A.okb, Ob.okb, h3.2, h4.2] <;> decide) (all20 room L2 n2 a3 a4 x3 x4 m3 m4 e2 (by omega) N3 N4 ?_)
          conv => whnf
          repeat' (first
            | (refine ⟨_, ld0, ?_⟩; conv => whnf)
            | (refine ⟨st, hsl, ld, ?_⟩; conv => whnf)
            | ((with_reducible refine regx_of ?_ ?_); (· decide +kernel); conv => whnf)
            | ((with_reducible refine growx_pre ?_ ?_); (· exact ⟨_, rfl⟩); conv => whnf)
            | ((with_reducible refine needm_of ?_ ?_); (· first | assumption | exact decide_eq_true (by omega) | exact mkOK_of (by decide) | decide +kernel | (refine decide_eq_true ?_; simp (disch := omega) only [i64w]; omega)); conv => whnf)
            | ((with_reducible refine condm_pos ?_ ?_); (· assumption); conv => whnf)
            | ((with_reducible refine condm_neg ?_ ?_); (· assumption); conv => whnf)
            | ((with_reducible refine forceL_fv (by assumption) ?_); conv => whnf)
            | ((with_reducible refine forceL_rfv (by assumption) ?_); conv => whnf)
            | ((with_reducible refine forceNm_of ?_); conv => whnf)
            | ((with_reducible refine needm_of (fv_lenL (by assumption) (by assumption)) ?_); conv => whnf)
            | ((with_reducible refine optm_var (fv_strL (by assumption) (by assumption)) (fun s hs => ?_)); conv => whnf)
            | ((with_reducible refine forceA_of ?_); conv => whnf)
            | ((with_reducible refine forceL_pl (by assumption) ?_); conv => whnf)
            | ((with_reducible refine forceL_rpl (by assumption) ?_); conv => whnf)
            | fail)
set_option maxHeartbeats 4000000 in
theorem plays_nil (W : World) (room : Nat) (hr1 : 1 ≤ room) (hr2 : room ≤ 1024) :
    Go.Eng.Fn Try.prog (roOf W) 5 [.a (.int .i64 (room : Int)), .a (.nils)] [] (fun v _ => v = .a (.bool true)) := by
  refine Go.Eng.Fn.of_code MT.h5 Try.func5 rfl (Nat.le_of_ble_eq_true rfl) ?_
  conv => whnf
  repeat' (first
    | ((with_reducible refine regx_of ?_ ?_); (· decide +kernel); conv => whnf)
    | ((with_reducible refine growx_pre ?_ ?_); (· exact ⟨_, rfl⟩); conv => whnf)
    | ((with_reducible refine needm_of ?_ ?_); (· first | assumption | exact decide_eq_true (by omega) | exact mkOK_of (by decide) | decide +kernel | (refine decide_eq_true ?_; simp (disch := omega) only [i64w]; omega)); conv => whnf)
    | ((with_reducible refine condm_pos ?_ ?_); (· assumption); conv => whnf)
    | ((with_reducible refine condm_neg ?_ ?_); (· assumption); conv => whnf)
    | ((with_reducible refine forceL_fv (by assumption) ?_); conv => whnf)
    | ((with_reducible refine forceL_rfv (by assumption) ?_); conv => whnf)
    | ((with_reducible refine forceNm_of ?_); conv => whnf)
    | ((with_reducible refine needm_of (fv_lenL (by assumption) (by assumption)) ?_); conv => whnf)
    | ((with_reducible refine optm_var (fv_strL (by assumption) (by assumption)) (fun s hs => ?_)); conv => whnf)
    | ((with_reducible refine forceA_of ?_); conv => whnf)
    | ((with_reducible refine forceL_pl (by assumption) ?_); conv => whnf)
    | ((with_reducible refine forceL_rpl (by assumption) ?_); conv => whnf)
    | fail)
  refine loopx_of (fun q F H => (q = 2 ∧ F = [(0, .a (.int .i64 (room : Int))), (1, .a (.nils)), (5, .a .nils), (6, .a .nils), (7, .a (.int .i64 0))] ∧ H = [])
    ∨ (q = 1 ∧ ∃ (c c' : Nat) (ns ms : List A), 1 ≤ c ∧ 1 ≤ c' ∧ ns = nps (c - 1) ∧ ms = nps (c' - 1) ∧ F = [(0, .a (.int .i64 (room : Int))), (1, .a (.nils)), (5, .a (.slc 4 0 1 c)), (6, .a (.slc 5 0 1 c')), (7, .a (.int .i64 1))] ∧ H = [.cells [.int .i64 room, .slc 1 0 0 0] 57 false, .cells [] 61 false, .cells [.int .i64 room, .slc 3 0 0 0] 47 false, .cells [] 69 false, .cells (.ptr 0 0 :: ns) 24 false, .cells (.ptr 2 0 :: ms) 41 false])
    ∨ (q = 0 ∧ ∃ (c c' : Nat) (ns ms : List A), Pl ns ∧ Pl ms ∧ F = [(1, .a (.nils)), (5, .a (.slc 8 0 2 c)), (6, .a (.slc 9 0 2 c')), (7, .a (.int .i64 2))] ∧ H = [.cells [.int .i64 room, .slc 1 0 0 0] 57 false, .cells [] 61 false, .cells [.int .i64 room, .slc 3 0 0 0] 47 false, .cells [] 69 false, .cells [.int .i64 room, .slc 5 0 0 0] 57 false, .cells [] 61 false, .cells [.int .i64 room, .slc 7 0 0 0] 47 false, .cells [] 69 false, .cells (.ptr 0 0 :: .ptr 4 0 :: ns) 24 false, .cells (.ptr 2 0 :: .ptr 6 0 :: ms) 41 false])) 2 ?_ ?_
  · exact Into.weak [] _ [] (.inl ⟨rfl, rfl, rfl⟩) ⟨rfl, rfl, rfl, rfl, rfl, trivial⟩ trivial rfl
  · rintro q F H (⟨rfl, rfl, rfl⟩ | ⟨rfl, c, c', ns, ms, hc, hc', hns, hms, rfl, rfl⟩ | ⟨rfl, c, c', ns, ms, hns, hms, rfl, rfl⟩)
    ·
      conv => whnf
      repeat' (first
        | ((with_reducible refine regx_of ?_ ?_); (· decide +kernel); conv => whnf)
        | ((with_reducible refine growx_pre ?_ ?_); (· exact ⟨_, rfl⟩); conv => whnf)
        | ((with_reducible refine needm_of ?_ ?_); (· first | assumption | exact decide_eq_true (by omega) | exact mkOK_of (by decide) | decide +kernel | (refine decide_eq_true ?_; simp (disch := omega) only [i64w]; omega)); conv => whnf)
        | ((with_reducible refine condm_pos ?_ ?_); (· assumption); conv => whnf)
        | ((with_reducible refine condm_neg ?_ ?_); (· assumption); conv => whnf)
        | ((with_reducible refine forceL_fv (by assumption) ?_); conv => whnf)
        | ((with_reducible refine forceL_rfv (by assumption) ?_); conv => whnf)
        | ((with_reducible refine forceNm_of ?_); conv => whnf)
        | ((with_reducible refine needm_of (fv_lenL (by assumption) (by assumption)) ?_); conv => whnf)
        | ((with_reducible refine optm_var (fv_strL (by assumption) (by assumption)) (fun s hs => ?_)); conv => whnf)
        | ((with_reducible refine forceA_of ?_); conv => whnf)
        | ((with_reducible refine forceL_pl (by assumption) ?_); conv => whnf)
        | ((with_reducible refine forceL_rpl (by assumption) ?_); conv => whnf)
        | fail)
      refine Go.Eng.Fn.frame [] (by rfl) (by exact trivial) (by rfl) (new8g room hr1 hr2 ?_)
      conv => whnf
      repeat' (first
        | ((with_reducible refine regx_of ?_ ?_); (· decide +kernel); conv => whnf)
        | ((with_reducible refine growx_pre ?_ ?_); (· exact ⟨_, rfl⟩); conv => whnf)
        | ((with_reducible refine needm_of ?_ ?_); (· first | assumption | exact decide_eq_true (by omega) | exact mkOK_of (by decide) | decide +kernel | (refine decide_eq_true ?_; simp (disch := omega) only [i64w]; omega)); conv => whnf)
        | ((with_reducible refine condm_pos ?_ ?_); (· assumption); conv => whnf)
        | ((with_reducible refine condm_neg ?_ ?_); (· assumption); conv => whnf)
        | ((with_reducible refine forceL_fv (by assumption) ?_); conv => whnf)
        | ((with_reducible refine forceL_rfv (by assumption) ?_); conv => whnf)
        | ((with_reducible refine forceNm_of ?_); conv => whnf)
        | ((with_reducible refine needm_of (fv_lenL (by assumption) (by assumption)) ?_); conv => whnf)
        | ((with_reducible refine optm_var (fv_strL (by assumption) (by assumption)) (fun s hs => ?_)); conv => whnf)
        | ((with_reducible refine forceA_of ?_); conv => whnf)
        | ((with_reducible refine forceL_pl (by assumption) ?_); conv => whnf)
        | ((with_reducible refine forceL_rpl (by assumption) ?_); conv => whnf)
        | fail)
      refine Go.Eng.Fn.frame [] (by rfl) (by exact trivial) (by rfl) (new18g room hr1 hr2 ?_)
      conv => whnf
      repeat' (first
        | ((with_reducible refine regx_of ?_ ?_); (· decide +kernel); conv => whnf)
        | ((with_reducible refine growx_pre ?_ ?_); (· exact ⟨_, rfl⟩); conv => whnf)
        | ((with_reducible refine needm_of ?_ ?_); (· first | assumption | exact decide_eq_true (by omega) | exact mkOK_of (by decide) | decide +kernel | (refine decide_eq_true ?_; simp (disch := omega) only [i64w]; omega)); conv => whnf)
        | ((with_reducible refine condm_pos ?_ ?_); (· assumption); conv => whnf)
        | ((with_reducible refine condm_neg ?_ ?_); (· assumption); conv => whnf)
        | ((with_reducible refine forceL_fv (by assumption) ?_); conv => whnf)
        | ((with_reducible refine forceL_rfv (by assumption) ?_); conv => whnf)
        | ((with_reducible refine forceNm_of ?_); conv => whnf)
        | ((with_reducible refine needm_of (fv_lenL (by assumption) (by assumption)) ?_); conv => whnf)
        | ((with_reducible refine optm_var (fv_strL (by assumption) (by assumption)) (fun s hs => ?_)); conv => whnf)
        | ((with_reducible refine forceA_of ?_); conv => whnf)
        | ((with_reducible refine forceL_pl (by assumption) ?_); conv => whnf)
        | ((with_reducible refine forceL_rpl (by assumption) ?_); conv => whnf)
        | fail)
      intro c1 hc1
      conv => whnf
      repeat' (first
        | ((with_reducible refine regx_of ?_ ?_); (· decide +kernel); conv => whnf)
        | ((with_reducible refine growx_pre ?_ ?_); (· exact ⟨_, rfl⟩); conv => whnf)
        | ((with_reducible refine needm_of ?_ ?_); (· first | assumption | exact decide_eq_true (by omega) | exact mkOK_of (by decide) | decide +kernel | (refine decide_eq_true ?_; simp (disch := omega) only [i64w]; omega)); conv => whnf)
        | ((with_reducible refine condm_pos ?_ ?_); (· assumption); conv => whnf)
        | ((with_reducible refine condm_neg ?_ ?_); (· assumption); conv => whnf)
        | ((with_reducible refine forceL_fv (by assumption) ?_); conv => whnf)
        | ((with_reducible refine forceL_rfv (by assumption) ?_); conv => whnf)
        | ((with_reducible refine forceNm_of ?_); conv => whnf)
        | ((with_reducible refine needm_of (fv_lenL (by assumption) (by assumption)) ?_); conv => whnf)
        | ((with_reducible refine optm_var (fv_strL (by assumption) (by assumption)) (fun s hs => ?_)); conv => whnf)
        | ((with_reducible refine forceA_of ?_); conv => whnf)
        | ((with_reducible refine forceL_pl (by assumption) ?_); conv => whnf)
        | ((with_reducible refine forceL_rpl (by assumption) ?_); conv => whnf)
        | fail)
      refine forceL_var (l' := nps (c1 - 1)) (np_new (Nat.mul_one _)) (fun ns hns => ?_)
      have pn := Pl.np hns
      conv => whnf
      repeat' (first
        | ((with_reducible refine regx_of ?_ ?_); (· decide +kernel); conv => whnf)
        | ((with_reducible refine growx_pre ?_ ?_); (· exact ⟨_, rfl⟩); conv => whnf)
        | ((with_reducible refine needm_of ?_ ?_); (· first | assumption | exact decide_eq_true (by omega) | exact mkOK_of (by decide) | decide +kernel | (refine decide_eq_true ?_; simp (disch := omega) only [i64w]; omega)); conv => whnf)
        | ((with_reducible refine condm_pos ?_ ?_); (· assumption); conv => whnf)
        | ((with_reducible refine condm_neg ?_ ?_); (· assumption); conv => whnf)
        | ((with_reducible refine forceL_fv (by assumption) ?_); conv => whnf)
        | ((with_reducible refine forceL_rfv (by assumption) ?_); conv => whnf)
        | ((with_reducible refine forceNm_of ?_); conv => whnf)
        | ((with_reducible refine needm_of (fv_lenL (by assumption) (by assumption)) ?_); conv => whnf)
        | ((with_reducible refine optm_var (fv_strL (by assumption) (by assumption)) (fun s hs => ?_)); conv => whnf)
        | ((with_reducible refine forceA_of ?_); conv => whnf)
        | ((with_reducible refine forceL_pl (by assumption) ?_); conv => whnf)
        | ((with_reducible refine forceL_rpl (by assumption) ?_); conv => whnf)
        | fail)
      intro c2 hc2
      conv => whnf
      repeat' (first
        | ((with_reducible refine regx_of ?_ ?_); (· decide +kernel); conv => whnf)
        | ((with_reducible refine growx_pre ?_ ?_); (· exact ⟨_, rfl⟩); conv => whnf)
        | ((with_reducible refine needm_of ?_ ?_); (· first | assumption | exact decide_eq_true (by omega) | exact mkOK_of (by decide) | decide +kernel | (refine decide_eq_true ?_; simp (disch := omega) only [i64w]; omega)); conv => whnf)
        | ((with_reducible refine condm_pos ?_ ?_); (· assumption); conv => whnf)
        | ((with_reducible refine condm_neg ?_ ?_); (· assumption); conv => whnf)
        | ((with_reducible refine forceL_fv (by assumption) ?_); conv => whnf)
        | ((with_reducible refine forceL_rfv (by assumption) ?_); conv => whnf)
        | ((with_reducible refine forceNm_of ?_); conv => whnf)
        | ((with_reducible refine needm_of (fv_lenL (by assumption) (by assumption)) ?_); conv => whnf)
        | ((with_reducible refine optm_var (fv_strL (by assumption) (by assumption)) (fun s hs => ?_)); conv => whnf)
        | ((with_reducible refine forceA_of ?_); conv => whnf)
        | ((with_reducible refine forceL_pl (by assumption) ?_); conv => whnf)
        | ((with_reducible refine forceL_rpl (by assumption) ?_); conv => whnf)
        | fail)
      refine forceL_var (l' := nps (c2 - 1)) (np_new' (Nat.mul_one _)) (fun ms hms => ?_)
      have pm := Pl.np hms
      conv => whnf
      repeat' (first
        | ((with_reducible refine regx_of ?_ ?_); (· decide +kernel); conv => whnf)
        | ((with_reducible refine growx_pre ?_ ?_); (· exact ⟨_, rfl⟩); conv => whnf)
        | ((with_reducible refine needm_of ?_ ?_); (· first | assumption | exact decide_eq_true (by omega) | exact mkOK_of (by decide) | decide +kernel | (refine decide_eq_true ?_; simp (disch := omega) only [i64w]; omega)); conv => whnf)
        | ((with_reducible refine condm_pos ?_ ?_); (· assumption); conv => whnf)
        | ((with_reducible refine condm_neg ?_ ?_); (· assumption); conv => whnf)
        | ((with_reducible refine forceL_fv (by assumption) ?_); conv => whnf)
        | ((with_reducible refine forceL_rfv (by assumption) ?_); conv => whnf)
        | ((with_reducible refine forceNm_of ?_); conv => whnf)
        | ((with_reducible refine needm_of (fv_lenL (by assumption) (by assumption)) ?_); conv => whnf)
        | ((with_reducible refine optm_var (fv_strL (by assumption) (by assumption)) (fun s hs => ?_)); conv => whnf)
        | ((with_reducible refine forceA_of ?_); conv => whnf)
        | ((with_reducible refine forceL_pl (by assumption) ?_); conv => whnf)
        | ((with_reducible refine forceL_rpl (by assumption) ?_); conv => whnf)
        | fail)
      exact ⟨1, by decide, Into.weak [0, 1, 2, 3, 5, 7] [(0, .a (.int .i64 (room : Int))), (1, .a (.nils)), (5, .a (.slc 4 0 1 c1)), (6, .a (.slc 5 0 1 c2)), (7, .a (.int .i64 1))] [.cells [.int .i64 room, .slc 1 0 0 0] 57 false, .cells [] 61 false, .cells [.int .i64 room, .slc 3 0 0 0] 47 false, .cells [] 69 false, .cells (.ptr 0 0 :: ns) 24 false, .cells (.ptr 2 0 :: ms) 41 false] (.inr (.inl ⟨rfl, c1, c2, ns, ms, by omega, by omega, hns, hms, rfl, rfl⟩)) ⟨rfl, rfl, rfl, rfl, rfl, trivial⟩ ⟨rfl, rfl, rfl, rfl, congrArg (fun l => some (Ob.cells (.ptr 0 0 :: l) 24 false)) (pn.1 _).symm, congrArg (fun l => some (Ob.cells (.ptr 2 0 :: l) 41 false)) (pm.1 _).symm, trivial⟩ (by simp [nodupb, baseb, Ob.okb, frmOk, V.okb, A.okb, pn.2, pm.2] <;> decide)⟩
    · have pn := Pl.np hns
      have pm := Pl.np hms
      conv => whnf
      repeat' (first
        | ((with_reducible refine regx_of ?_ ?_); (· decide +kernel); conv => whnf)
        | ((with_reducible refine growx_pre ?_ ?_); (· exact ⟨_, rfl⟩); conv => whnf)
        | ((with_reducible refine needm_of ?_ ?_); (· first | assumption | exact decide_eq_true (by omega) | exact mkOK_of (by decide) | decide +kernel | (refine decide_eq_true ?_; simp (disch := omega) only [i64w]; omega)); conv => whnf)
        | ((with_reducible refine condm_pos ?_ ?_); (· assumption); conv => whnf)
        | ((with_reducible refine condm_neg ?_ ?_); (· assumption); conv => whnf)
        | ((with_reducible refine forceL_fv (by assumption) ?_); conv => whnf)
        | ((with_reducible refine forceL_rfv (by assumption) ?_); conv => whnf)
        | ((with_reducible refine forceNm_of ?_); conv => whnf)
        | ((with_reducible refine needm_of (fv_lenL (by assumption) (by assumption)) ?_); conv => whnf)
        | ((with_reducible refine optm_var (fv_strL (by assumption) (by assumption)) (fun s hs => ?_)); conv => whnf)
        | ((with_reducible refine forceA_of ?_); conv => whnf)
        | ((with_reducible refine forceL_pl (by assumption) ?_); conv => whnf)
        | ((with_reducible refine forceL_rpl (by assumption) ?_); conv => whnf)
        | fail)
      refine Go.Eng.Fn.frame [] (by rfl) (by exact trivial) (by rfl) (new8g room hr1 hr2 ?_)
      conv => whnf
      repeat' (first
        | ((with_reducible refine regx_of ?_ ?_); (· decide +kernel); conv => whnf)
        | ((with_reducible refine growx_pre ?_ ?_); (· exact ⟨_, rfl⟩); conv => whnf)
        | ((with_reducible refine needm_of ?_ ?_); (· first | assumption | exact decide_eq_true (by omega) | exact mkOK_of (by decide) | decide +kernel | (refine decide_eq_true ?_; simp (disch := omega) only [i64w]; omega)); conv => whnf)
        | ((with_reducible refine condm_pos ?_ ?_); (· assumption); conv => whnf)
        | ((with_reducible refine condm_neg ?_ ?_); (· assumption); conv => whnf)
        | ((with_reducible refine forceL_fv (by assumption) ?_); conv => whnf)
        | ((with_reducible refine forceL_rfv (by assumption) ?_); conv => whnf)
        | ((with_reducible refine forceNm_of ?_); conv => whnf)
        | ((with_reducible refine needm_of (fv_lenL (by assumption) (by assumption)) ?_); conv => whnf)
        | ((with_reducible refine optm_var (fv_strL (by assumption) (by assumption)) (fun s hs => ?_)); conv => whnf)
        | ((with_reducible refine forceA_of ?_); conv => whnf)
        | ((with_reducible refine forceL_pl (by assumption) ?_); conv => whnf)
        | ((with_reducible refine forceL_rpl (by assumption) ?_); conv => whnf)
        | fail)
      refine Go.Eng.Fn.frame [] (by rfl) (by exact trivial) (by rfl) (new18g room hr1 hr2 ?_)
      conv => whnf
      repeat' (first
        | ((with_reducible refine regx_of ?_ ?_); (· decide +kernel); conv => whnf)
        | ((with_reducible refine growx_pre ?_ ?_); (· exact ⟨_, rfl⟩); conv => whnf)
        | ((with_reducible refine needm_of ?_ ?_); (· first | assumption | exact decide_eq_true (by omega) | exact mkOK_of (by decide) | decide +kernel | (refine decide_eq_true ?_; simp (disch := omega) only [i64w]; omega)); conv => whnf)
        | ((with_reducible refine condm_pos ?_ ?_); (· assumption); conv => whnf)
        | ((with_reducible refine condm_neg ?_ ?_); (· assumption); conv => whnf)
        | ((with_reducible refine forceL_fv (by assumption) ?_); conv => whnf)
        | ((with_reducible refine forceL_rfv (by assumption) ?_); conv => whnf)
        | ((with_reducible refine forceNm_of ?_); conv => whnf)
        | ((with_reducible refine needm_of (fv_lenL (by assumption) (by assumption)) ?_); conv => whnf)
        | ((with_reducible refine optm_var (fv_strL (by assumption) (by assumption)) (fun s hs => ?_)); conv => whnf)
        | ((with_reducible refine forceA_of ?_); conv => whnf)
        | ((with_reducible refine forceL_pl (by assumption) ?_); conv => whnf)
        | ((with_reducible refine forceL_rpl (by assumption) ?_); conv => whnf)
        | fail)
      refine condm_of (fun h => ?_) (fun h => ?_)
      · have h' := of_decide_eq_true h
        obtain ⟨k1, rfl⟩ : ∃ k, c = k + 2 := ⟨c - 2, by omega⟩
        obtain ⟨nt, hnt⟩ : ∃ l, l = nps k1 := ⟨_, rfl⟩
        have pnt := Pl.np hnt
        obtain rfl : ns = .nilp :: nt := by rw [hns, hnt]; rfl
        conv => whnf
        repeat' (first
          | ((with_reducible refine regx_of ?_ ?_); (· decide +kernel); conv => whnf)
          | ((with_reducible refine growx_pre ?_ ?_); (· exact ⟨_, rfl⟩); conv => whnf)
          | ((with_reducible refine needm_of ?_ ?_); (· first | assumption | exact decide_eq_true (by omega) | exact mkOK_of (by decide) | decide +kernel | (refine decide_eq_true ?_; simp (disch := omega) only [i64w]; omega)); conv => whnf)
          | ((with_reducible refine condm_pos ?_ ?_); (· assumption); conv => whnf)
          | ((with_reducible refine condm_neg ?_ ?_); (· assumption); conv => whnf)
          | ((with_reducible refine forceL_fv (by assumption) ?_); conv => whnf)
          | ((with_reducible refine forceL_rfv (by assumption) ?_); conv => whnf)
          | ((with_reducible refine forceNm_of ?_); conv => whnf)
          | ((with_reducible refine needm_of (fv_lenL (by assumption) (by assumption)) ?_); conv => whnf)
          | ((with_reducible refine optm_var (fv_strL (by assumption) (by assumption)) (fun s hs => ?_)); conv => whnf)
          | ((with_reducible refine forceA_of ?_); conv => whnf)
          | ((with_reducible refine forceL_pl (by assumption) ?_); conv => whnf)
          | ((with_reducible refine forceL_rpl (by assumption) ?_); conv => whnf)
          | fail)
        refine needm_of (decide_eq_true (by show 0 + 1 * 1 + 1 ≤ nt.length + 1 + 1; omega)) ?_
        conv => whnf
        repeat' (first
          | ((with_reducible refine regx_of ?_ ?_); (· decide +kernel); conv => whnf)
          | ((with_reducible refine growx_pre ?_ ?_); (· exact ⟨_, rfl⟩); conv => whnf)
          | ((with_reducible refine needm_of ?_ ?_); (· first | assumption | exact decide_eq_true (by omega) | exact mkOK_of (by decide) | decide +kernel | (refine decide_eq_true ?_; simp (disch := omega) only [i64w]; omega)); conv => whnf)
          | ((with_reducible refine condm_pos ?_ ?_); (· assumption); conv => whnf)
          | ((with_reducible refine condm_neg ?_ ?_); (· assumption); conv => whnf)
          | ((with_reducible refine forceL_fv (by assumption) ?_); conv => whnf)
          | ((with_reducible refine forceL_rfv (by assumption) ?_); conv => whnf)
          | ((with_reducible refine forceNm_of ?_); conv => whnf)
          | ((with_reducible refine needm_of (fv_lenL (by assumption) (by assumption)) ?_); conv => whnf)
          | ((with_reducible refine optm_var (fv_strL (by assumption) (by assumption)) (fun s hs => ?_)); conv => whnf)
          | ((with_reducible refine forceA_of ?_); conv => whnf)
          | ((with_reducible refine forceL_pl (by assumption) ?_); conv => whnf)
          | ((with_reducible refine forceL_rpl (by assumption) ?_); conv => whnf)
          | fail)
        refine condm_of (fun h2 => ?_) (fun h2 => ?_)
        · have h3 := of_decide_eq_true h2
          obtain ⟨k2, rfl⟩ : ∃ k, c' = k + 2 := ⟨c' - 2, by omega⟩
          obtain ⟨mt, hmt⟩ : ∃ l, l = nps k2 := ⟨_, rfl⟩
          have pmt := Pl.np hmt
          obtain rfl : ms = .nilp :: mt := by rw [hms, hmt]; rfl
          conv => whnf
          repeat' (first
            | ((with_reducible refine regx_of ?_ ?_); (· decide +kernel); conv => whnf)
            | ((with_reducible refine growx_pre ?_ ?_); (· exact ⟨_, rfl⟩); conv => whnf)
            | ((with_reducible refine needm_of ?_ ?_); (· first | assumption | exact decide_eq_true (by omega) | exact mkOK_of (by decide) | decide +kernel | (refine decide_eq_true ?_; simp (disch := omega) only [i64w]; omega)); conv => whnf)
            | ((with_reducible refine condm_pos ?_ ?_); (· assumption); conv => whnf)
            | ((with_reducible refine condm_neg ?_ ?_); (· assumption); conv => whnf)
            | ((with_reducible refine forceL_fv (by assumption) ?_); conv => whnf)
            | ((with_reducible refine forceL_rfv (by assumption) ?_); conv => whnf)
            | ((with_reducible refine forceNm_of ?_); conv => whnf)
            | ((with_reducible refine needm_of (fv_lenL (by assumption) (by assumption)) ?_); conv => whnf)
            | ((with_reducible refine optm_var (fv_strL (by assumption) (by assumption)) (fun s hs => ?_)); conv => whnf)
            | ((with_reducible refine forceA_of ?_); conv => whnf)
            | ((with_reducible refine forceL_pl (by assumption) ?_); conv => whnf)
            | ((with_reducible refine forceL_rpl (by assumption) ?_); conv => whnf)
            | fail)
          refine needm_of (decide_eq_true (by show 0 + 1 * 1 + 1 ≤ mt.length + 1 + 1; omega)) ?_
          conv => whnf
          repeat' (first
            | ((with_reducible refine regx_of ?_ ?_); (· decide +kernel); conv => whnf)
            | ((with_reducible refine growx_pre ?_ ?_); (· exact ⟨_, rfl⟩); conv => whnf)
            | ((with_reducible refine needm_of ?_ ?_); (· first | assumption | exact decide_eq_true (by omega) | exact mkOK_of (by decide) | decide +kernel | (refine decide_eq_true ?_; simp (disch := omega) only [i64w]; omega)); conv => whnf)
            | ((with_reducible refine condm_pos ?_ ?_); (· assumption); conv => whnf)
            | ((with_reducible refine condm_neg ?_ ?_); (· assumption); conv => whnf)
            | ((with_reducible refine forceL_fv (by assumption) ?_); conv => whnf)
            | ((with_reducible refine forceL_rfv (by assumption) ?_); conv => whnf)
            | ((with_reducible refine forceNm_of ?_); conv => whnf)
            | ((with_reducible refine needm_of (fv_lenL (by assumption) (by assumption)) ?_); conv => whnf)
            | ((with_reducible refine optm_var (fv_strL (by assumption) (by assumption)) (fun s hs => ?_)); conv => whnf)
            | ((with_reducible refine forceA_of ?_); conv => whnf)
            | ((with_reducible refine forceL_pl (by assumption) ?_); conv => whnf)
            | ((with_reducible refine forceL_rpl (by assumption) ?_); conv => whnf)
            | fail)
          exact ⟨0, by decide, Into.weak [0, 1, 2, 3, 6, 7, 8, 9, 4, 5] [(1, .a (.nils)), (5, .a (.slc 8 0 2 (k1 + 2))), (6, .a (.slc 9 0 2 (k2 + 2))), (7, .a (.int .i64 2))] [.cells [.int .i64 room, .slc 1 0 0 0] 57 false, .cells [] 61 false, .cells [.int .i64 room, .slc 3 0 0 0] 47 false, .cells [] 69 false, .cells [.int .i64 room, .slc 5 0 0 0] 57 false, .cells [] 61 false, .cells [.int .i64 room, .slc 7 0 0 0] 47 false, .cells [] 69 false, .cells (.ptr 0 0 :: .ptr 4 0 :: nt) 24 false, .cells (.ptr 2 0 :: .ptr 6 0 :: mt) 41 false] (.inr (.inr ⟨rfl, k1 + 2, (k2 + 2), nt, mt, pnt, pmt, rfl, rfl⟩)) ⟨rfl, rfl, rfl, rfl, trivial⟩ ⟨rfl, rfl, rfl, rfl, rfl, rfl, rfl, rfl, congrArg (fun l => some (Ob.cells (.ptr 0 0 :: .ptr 6 0 :: l) 24 false)) (pnt.1 _).symm, congrArg (fun l => some (Ob.cells (.ptr 2 0 :: .ptr 8 0 :: l) 41 false)) (pmt.1 _).symm, trivial⟩ (by simp [nodupb, baseb, Ob.okb, frmOk, V.okb, A.okb, pnt.2, pmt.2] <;> decide)⟩
        · have h3 := of_decide_eq_false h2
          conv => whnf
          repeat' (first
            | ((with_reducible refine regx_of ?_ ?_); (· decide +kernel); conv => whnf)
            | ((with_reducible refine growx_pre ?_ ?_); (· exact ⟨_, rfl⟩); conv => whnf)
            | ((with_reducible refine needm_of ?_ ?_); (· first | assumption | exact decide_eq_true (by omega) | exact mkOK_of (by decide) | decide +kernel | (refine decide_eq_true ?_; simp (disch := omega) only [i64w]; omega)); conv => whnf)
            | ((with_reducible refine condm_pos ?_ ?_); (· assumption); conv => whnf)
            | ((with_reducible refine condm_neg ?_ ?_); (· assumption); conv => whnf)
            | ((with_reducible refine forceL_fv (by assumption) ?_); conv => whnf)
            | ((with_reducible refine forceL_rfv (by assumption) ?_); conv => whnf)
            | ((with_reducible refine forceNm_of ?_); conv => whnf)
            | ((with_reducible refine needm_of (fv_lenL (by assumption) (by assumption)) ?_); conv => whnf)
            | ((with_reducible refine optm_var (fv_strL (by assumption) (by assumption)) (fun s hs => ?_)); conv => whnf)
            | ((with_reducible refine forceA_of ?_); conv => whnf)
            | ((with_reducible refine forceL_pl (by assumption) ?_); conv => whnf)
            | ((with_reducible refine forceL_rpl (by assumption) ?_); conv => whnf)
            | fail)
          intro c2 hc2
          conv => whnf
          repeat' (first
            | ((with_reducible refine regx_of ?_ ?_); (· decide +kernel); conv => whnf)
            | ((with_reducible refine growx_pre ?_ ?_); (· exact ⟨_, rfl⟩); conv => whnf)
            | ((with_reducible refine needm_of ?_ ?_); (· first | assumption | exact decide_eq_true (by omega) | exact mkOK_of (by decide) | decide +kernel | (refine decide_eq_true ?_; simp (disch := omega) only [i64w]; omega)); conv => whnf)
            | ((with_reducible refine condm_pos ?_ ?_); (· assumption); conv => whnf)
            | ((with_reducible refine condm_neg ?_ ?_); (· assumption); conv => whnf)
            | ((with_reducible refine forceL_fv (by assumption) ?_); conv => whnf)
            | ((with_reducible refine forceL_rfv (by assumption) ?_); conv => whnf)
            | ((with_reducible refine forceNm_of ?_); conv => whnf)
            | ((with_reducible refine needm_of (fv_lenL (by assumption) (by assumption)) ?_); conv => whnf)
            | ((with_reducible refine optm_var (fv_strL (by assumption) (by assumption)) (fun s hs => ?_)); conv => whnf)
            | ((with_reducible refine forceA_of ?_); conv => whnf)
            | ((with_reducible refine forceL_pl (by assumption) ?_); conv => whnf)
            | ((with_reducible refine forceL_rpl (by assumption) ?_); conv => whnf)
            | fail)
          refine forceL_var (l' := nps (c2 - (1 + 1))) (np_new' (Nat.mul_one _)) (fun mt hmt => ?_)
          have pmt := Pl.np hmt
          conv => whnf
          repeat' (first
            | ((with_reducible refine regx_of ?_ ?_); (· decide +kernel); conv => whnf)
            | ((with_reducible refine growx_pre ?_ ?_); (· exact ⟨_, rfl⟩); conv => whnf)
            | ((with_reducible refine needm_of ?_ ?_); (· first | assumption | exact decide_eq_true (by omega) | exact mkOK_of (by decide) | decide +kernel | (refine decide_eq_true ?_; simp (disch := omega) only [i64w]; omega)); conv => whnf)
            | ((with_reducible refine condm_pos ?_ ?_); (· assumption); conv => whnf)
            | ((with_reducible refine condm_neg ?_ ?_); (· assumption); conv => whnf)
            | ((with_reducible refine forceL_fv (by assumption) ?_); conv => whnf)
            | ((with_reducible refine forceL_rfv (by assumption) ?_); conv => whnf)
            | ((with_reducible refine forceNm_of ?_); conv => whnf)
            | ((with_reducible refine needm_of (fv_lenL (by assumption) (by assumption)) ?_); conv => whnf)
            | ((with_reducible refine optm_var (fv_strL (by assumption) (by assumption)) (fun s hs => ?_)); conv => whnf)
            | ((with_reducible refine forceA_of ?_); conv => whnf)
            | ((with_reducible refine forceL_pl (by assumption) ?_); conv => whnf)
            | ((with_reducible refine forceL_rpl (by assumption) ?_); conv => whnf)
            | fail)
          exact ⟨0, by decide, Into.weak [0, 1, 2, 3, 6, 7, 8, 9, 4, 12] [(1, .a (.nils)), (5, .a (.slc 8 0 2 (k1 + 2))), (6, .a (.slc 9 0 2 c2)), (7, .a (.int .i64 2))] [.cells [.int .i64 room, .slc 1 0 0 0] 57 false, .cells [] 61 false, .cells [.int .i64 room, .slc 3 0 0 0] 47 false, .cells [] 69 false, .cells [.int .i64 room, .slc 5 0 0 0] 57 false, .cells [] 61 false, .cells [.int .i64 room, .slc 7 0 0 0] 47 false, .cells [] 69 false, .cells (.ptr 0 0 :: .ptr 4 0 :: nt) 24 false, .cells (.ptr 2 0 :: .ptr 6 0 :: mt) 41 false] (.inr (.inr ⟨rfl, k1 + 2, c2, nt, mt, pnt, pmt, rfl, rfl⟩)) ⟨rfl, rfl, rfl, rfl, trivial⟩ ⟨rfl, rfl, rfl, rfl, rfl, rfl, rfl, rfl, congrArg (fun l => some (Ob.cells (.ptr 0 0 :: .ptr 6 0 :: l) 24 false)) (pnt.1 _).symm, congrArg (fun l => some (Ob.cells (.ptr 2 0 :: .ptr 8 0 :: l) 41 false)) (pmt.1 _).symm, trivial⟩ (by simp [nodupb, baseb, Ob.okb, frmOk, V.okb, A.okb, pnt.2, pmt.2] <;> decide)⟩
      · have h' := of_decide_eq_false h
        conv => whnf
        repeat' (first
          | ((with_reducible refine regx_of ?_ ?_); (· decide +kernel); conv => whnf)
          | ((with_reducible refine growx_pre ?_ ?_); (· exact ⟨_, rfl⟩); conv => whnf)
          | ((with_reducible refine needm_of ?_ ?_); (· first | assumption | exact decide_eq_true (by omega) | exact mkOK_of (by decide) | decide +kernel | (refine decide_eq_true ?_; simp (disch := omega) only [i64w]; omega)); conv => whnf)
          | ((with_reducible refine condm_pos ?_ ?_); (· assumption); conv => whnf)
          | ((with_reducible refine condm_neg ?_ ?_); (· assumption); conv => whnf)
          | ((with_reducible refine forceL_fv (by assumption) ?_); conv => whnf)
          | ((with_reducible refine forceL_rfv (by assumption) ?_); conv => whnf)
          | ((with_reducible refine forceNm_of ?_); conv => whnf)
          | ((with_reducible refine needm_of (fv_lenL (by assumption) (by assumption)) ?_); conv => whnf)
          | ((with_reducible refine optm_var (fv_strL (by assumption) (by assumption)) (fun s hs => ?_)); conv => whnf)
          | ((with_reducible refine forceA_of ?_); conv => whnf)
          | ((with_reducible refine forceL_pl (by assumption) ?_); conv => whnf)
          | ((with_reducible refine forceL_rpl (by assumption) ?_); conv => whnf)
          | fail)
        intro c1 hc1
        conv => whnf
        repeat' (first
          | ((with_reducible refine regx_of ?_ ?_); (· decide +kernel); conv => whnf)
          | ((with_reducible refine growx_pre ?_ ?_); (· exact ⟨_, rfl⟩); conv => whnf)
          | ((with_reducible refine needm_of ?_ ?_); (· first | assumption | exact decide_eq_true (by omega) | exact mkOK_of (by decide) | decide +kernel | (refine decide_eq_true ?_; simp (disch := omega) only [i64w]; omega)); conv => whnf)
          | ((with_reducible refine condm_pos ?_ ?_); (· assumption); conv => whnf)
          | ((with_reducible refine condm_neg ?_ ?_); (· assumption); conv => whnf)
          | ((with_reducible refine forceL_fv (by assumption) ?_); conv => whnf)
          | ((with_reducible refine forceL_rfv (by assumption) ?_); conv => whnf)
          | ((with_reducible refine forceNm_of ?_); conv => whnf)
          | ((with_reducible refine needm_of (fv_lenL (by assumption) (by assumption)) ?_); conv => whnf)
          | ((with_reducible refine optm_var (fv_strL (by assumption) (by assumption)) (fun s hs => ?_)); conv => whnf)
          | ((with_reducible refine forceA_of ?_); conv => whnf)
          | ((with_reducible refine forceL_pl (by assumption) ?_); conv => whnf)
          | ((with_reducible refine forceL_rpl (by assumption) ?_); conv => whnf)
          | fail)
        refine forceL_var (l' := nps (c1 - (1 + 1))) (np_new (Nat.mul_one _)) (fun nt hnt => ?_)
        have pnt := Pl.np hnt
        conv => whnf
        repeat' (first
          | ((with_reducible refine regx_of ?_ ?_); (· decide +kernel); conv => whnf)
          | ((with_reducible refine growx_pre ?_ ?_); (· exact ⟨_, rfl⟩); conv => whnf)
          | ((with_reducible refine needm_of ?_ ?_); (· first | assumption | exact decide_eq_true (by omega) | exact mkOK_of (by decide) | decide +kernel | (refine decide_eq_true ?_; simp (disch := omega) only [i64w]; omega)); conv => whnf)
          | ((with_reducible refine condm_pos ?_ ?_); (· assumption); conv => whnf)
          | ((with_reducible refine condm_neg ?_ ?_); (· assumption); conv => whnf)
          | ((with_reducible refine forceL_fv (by assumption) ?_); conv => whnf)
          | ((with_reducible refine forceL_rfv (by assumption) ?_); conv => whnf)
          | ((with_reducible refine forceNm_of ?_); conv => whnf)
          | ((with_reducible refine needm_of (fv_lenL (by assumption) (by assumption)) ?_); conv => whnf)
          | ((with_reducible refine optm_var (fv_strL (by assumption) (by assumption)) (fun s hs => ?_)); conv => whnf)
          | ((with_reducible refine forceA_of ?_); conv => whnf)
          | ((with_reducible refine forceL_pl (by assumption) ?_); conv => whnf)
          | ((with_reducible refine forceL_rpl (by assumption) ?_); conv => whnf)
          | fail)
        refine condm_of (fun h2 => ?_) (fun h2 => ?_)
        · have h3 := of_decide_eq_true h2
          obtain ⟨k2, rfl⟩ : ∃ k, c' = k + 2 := ⟨c' - 2, by omega⟩
          obtain ⟨mt, hmt⟩ : ∃ l, l = nps k2 := ⟨_, rfl⟩
          have pmt := Pl.np hmt
          obtain rfl : ms = .nilp :: mt := by rw [hms, hmt]; rfl
          conv => whnf
          repeat' (first
            | ((with_reducible refine regx_of ?_ ?_); (· decide +kernel); conv => whnf)
            | ((with_reducible refine growx_pre ?_ ?_); (· exact ⟨_, rfl⟩); conv => whnf)
            | ((with_reducible refine needm_of ?_ ?_); (· first | assumption | exact decide_eq_true (by omega) | exact mkOK_of (by decide) | decide +kernel | (refine decide_eq_true ?_; simp (disch := omega) only [i64w]; omega)); conv => whnf)
            | ((with_reducible refine condm_pos ?_ ?_); (· assumption); conv => whnf)
            | ((with_reducible refine condm_neg ?_ ?_); (· assumption); conv => whnf)
            | ((with_reducible refine forceL_fv (by assumption) ?_); conv => whnf)
            | ((with_reducible refine forceL_rfv (by assumption) ?_); conv => whnf)
            | ((with_reducible refine forceNm_of ?_); conv => whnf)
            | ((with_reducible refine needm_of (fv_lenL (by assumption) (by assumption)) ?_); conv => whnf)
            | ((with_reducible refine optm_var (fv_strL (by assumption) (by assumption)) (fun s hs => ?_)); conv => whnf)
            | ((with_reducible refine forceA_of ?_); conv => whnf)
            | ((with_reducible refine forceL_pl (by assumption) ?_); conv => whnf)
            | ((with_reducible refine forceL_rpl (by assumption) ?_); conv => whnf)
            | fail)
          refine needm_of (decide_eq_true (by show 0 + 1 * 1 + 1 ≤ mt.length + 1 + 1; omega)) ?_
          conv => whnf
          repeat' (first
            | ((with_reducible refine regx_of ?_ ?_); (· decide +kernel); conv => whnf)
            | ((with_reducible refine growx_pre ?_ ?_); (· exact ⟨_, rfl⟩); conv => whnf)
            | ((with_reducible refine needm_of ?_ ?_); (· first | assumption | exact decide_eq_true (by omega) | exact mkOK_of (by decide) | decide +kernel | (refine decide_eq_true ?_; simp (disch := omega) only [i64w]; omega)); conv => whnf)
            | ((with_reducible refine condm_pos ?_ ?_); (· assumption); conv => whnf)
            | ((with_reducible refine condm_neg ?_ ?_); (· assumption); conv => whnf)
            | ((with_reducible refine forceL_fv (by assumption) ?_); conv => whnf)
            | ((with_reducible refine forceL_rfv (by assumption) ?_); conv => whnf)
            | ((with_reducible refine forceNm_of ?_); conv => whnf)
            | ((with_reducible refine needm_of (fv_lenL (by assumption) (by assumption)) ?_); conv => whnf)
            | ((with_reducible refine optm_var (fv_strL (by assumption) (by assumption)) (fun s hs => ?_)); conv => whnf)
            | ((with_reducible refine forceA_of ?_); conv => whnf)
            | ((with_reducible refine forceL_pl (by assumption) ?_); conv => whnf)
            | ((with_reducible refine forceL_rpl (by assumption) ?_); conv => whnf)
            | fail)
          exact ⟨0, by decide, Into.weak [0, 1, 2, 3, 6, 7, 8, 9, 11, 5] [(1, .a (.nils)), (5, .a (.slc 8 0 2 c1)), (6, .a (.slc 9 0 2 (k2 + 2))), (7, .a (.int .i64 2))] [.cells [.int .i64 room, .slc 1 0 0 0] 57 false, .cells [] 61 false, .cells [.int .i64 room, .slc 3 0 0 0] 47 false, .cells [] 69 false, .cells [.int .i64 room, .slc 5 0 0 0] 57 false, .cells [] 61 false, .cells [.int .i64 room, .slc 7 0 0 0] 47 false, .cells [] 69 false, .cells (.ptr 0 0 :: .ptr 4 0 :: nt) 24 false, .cells (.ptr 2 0 :: .ptr 6 0 :: mt) 41 false] (.inr (.inr ⟨rfl, c1, (k2 + 2), nt, mt, pnt, pmt, rfl, rfl⟩)) ⟨rfl, rfl, rfl, rfl, trivial⟩ ⟨rfl, rfl, rfl, rfl, rfl, rfl, rfl, rfl, congrArg (fun l => some (Ob.cells (.ptr 0 0 :: .ptr 6 0 :: l) 24 false)) (pnt.1 _).symm, congrArg (fun l => some (Ob.cells (.ptr 2 0 :: .ptr 8 0 :: l) 41 false)) (pmt.1 _).symm, trivial⟩ (by simp [nodupb, baseb, Ob.okb, frmOk, V.okb, A.okb, pnt.2, pmt.2] <;> decide)⟩
        · have h3 := of_decide_eq_false h2
          conv => whnf
          repeat' (first
            | ((with_reducible refine regx_of ?_ ?_); (· decide +kernel); conv => whnf)
            | ((with_reducible refine growx_pre ?_ ?_); (· exact ⟨_, rfl⟩); conv => whnf)
            | ((with_reducible refine needm_of ?_ ?_); (· first | assumption | exact decide_eq_true (by omega) | exact mkOK_of (by decide) | decide +kernel | (refine decide_eq_true ?_; simp (disch := omega) only [i64w]; omega)); conv => whnf)
            | ((with_reducible refine condm_pos ?_ ?_); (· assumption); conv => whnf)
            | ((with_reducible refine condm_neg ?_ ?_); (· assumption); conv => whnf)
            | ((with_reducible refine forceL_fv (by assumption) ?_); conv => whnf)
            | ((with_reducible refine forceL_rfv (by assumption) ?_); conv => whnf)
            | ((with_reducible refine forceNm_of ?_); conv => whnf)
            | ((with_reducible refine needm_of (fv_lenL (by assumption) (by assumption)) ?_); conv => whnf)
            | ((with_reducible refine optm_var (fv_strL (by assumption) (by assumption)) (fun s hs => ?_)); conv => whnf)
            | ((with_reducible refine forceA_of ?_); conv => whnf)
            | ((with_reducible refine forceL_pl (by assumption) ?_); conv => whnf)
            | ((with_reducible refine forceL_rpl (by assumption) ?_); conv => whnf)
            | fail)
          intro c2 hc2
          conv => whnf
          repeat' (first
            | ((with_reducible refine regx_of ?_ ?_); (· decide +kernel); conv => whnf)
            | ((with_reducible refine growx_pre ?_ ?_); (· exact ⟨_, rfl⟩); conv => whnf)
            | ((with_reducible refine needm_of ?_ ?_); (· first | assumption | exact decide_eq_true (by omega) | exact mkOK_of (by decide) | decide +kernel | (refine decide_eq_true ?_; simp (disch := omega) only [i64w]; omega)); conv => whnf)
            | ((with_reducible refine condm_pos ?_ ?_); (· assumption); conv => whnf)
            | ((with_reducible refine condm_neg ?_ ?_); (· assumption); conv => whnf)
            | ((with_reducible refine forceL_fv (by assumption) ?_); conv => whnf)
            | ((with_reducible refine forceL_rfv (by assumption) ?_); conv => whnf)
            | ((with_reducible refine forceNm_of ?_); conv => whnf)
            | ((with_reducible refine needm_of (fv_lenL (by assumption) (by assumption)) ?_); conv => whnf)
            | ((with_reducible refine optm_var (fv_strL (by assumption) (by assumption)) (fun s hs => ?_)); conv => whnf)
            | ((with_reducible refine forceA_of ?_); conv => whnf)
            | ((with_reducible refine forceL_pl (by assumption) ?_); conv => whnf)
            | ((with_reducible refine forceL_rpl (by assumption) ?_); conv => whnf)
            | fail)
          refine forceL_var (l' := nps (c2 - (1 + 1))) (np_new' (Nat.mul_one _)) (fun mt hmt => ?_)
          have pmt := Pl.np hmt
          conv => whnf
          repeat' (first
            | ((with_reducible refine regx_of ?_ ?_); (· decide +kernel); conv => whnf)
            | ((with_reducible refine growx_pre ?_ ?_); (· exact ⟨_, rfl⟩); conv => whnf)
            | ((with_reducible refine needm_of ?_ ?_); (· first | assumption | exact decide_eq_true (by omega) | exact mkOK_of (by decide) | decide +kernel | (refine decide_eq_true ?_; simp (disch := omega) only [i64w]; omega)); conv => whnf)
            | ((with_reducible refine condm_pos ?_ ?_); (· assumption); conv => whnf)
            | ((with_reducible refine condm_neg ?_ ?_); (· assumption); conv => whnf)
            | ((with_reducible refine forceL_fv (by assumption) ?_); conv => whnf)
            | ((with_reducible refine forceL_rfv (by assumption) ?_); conv => whnf)
            | ((with_reducible refine forceNm_of ?_); conv => whnf)
            | ((with_reducible refine needm_of (fv_lenL (by assumption) (by assumption)) ?_); conv => whnf)
            | ((with_reducible refine optm_var (fv_strL (by assumption) (by assumption)) (fun s hs => ?_)); conv => whnf)
            | ((with_reducible refine forceA_of ?_); conv => whnf)
            | ((with_reducible refine forceL_pl (by assumption) ?_); conv => whnf)
            | ((with_reducible refine forceL_rpl (by assumption) ?_); conv => whnf)
            | fail)
          exact ⟨0, by decide, Into.weak [0, 1, 2, 3, 6, 7, 8, 9, 11, 13] [(1, .a (.nils)), (5, .a (.slc 8 0 2 c1)), (6, .a (.slc 9 0 2 c2)), (7, .a (.int .i64 2))] [.cells [.int .i64 room, .slc 1 0 0 0] 57 false, .cells [] 61 false, .cells [.int .i64 room, .slc 3 0 0 0] 47 false, .cells [] 69 false, .cells [.int .i64 room, .slc 5 0 0 0] 57 false, .cells [] 61 false, .cells [.int .i64 room, .slc 7 0 0 0] 47 false, .cells [] 69 false, .cells (.ptr 0 0 :: .ptr 4 0 :: nt) 24 false, .cells (.ptr 2 0 :: .ptr 6 0 :: mt) 41 false] (.inr (.inr ⟨rfl, c1, c2, nt, mt, pnt, pmt, rfl, rfl⟩)) ⟨rfl, rfl, rfl, rfl, trivial⟩ ⟨rfl, rfl, rfl, rfl, rfl, rfl, rfl, rfl, congrArg (fun l => some (Ob.cells (.ptr 0 0 :: .ptr 6 0 :: l) 24 false)) (pnt.1 _).symm, congrArg (fun l => some (Ob.cells (.ptr 2 0 :: .ptr 8 0 :: l) 41 false)) (pmt.1 _).symm, trivial⟩ (by simp [nodupb, baseb, Ob.okb, frmOk, V.okb, A.okb, pnt.2, pmt.2] <;> decide)⟩
    · have pn := hns
      have pm := hms
      have n0 : Nt [] [] 0 := ⟨[], by simp [fls_nil], rfl⟩
      conv => whnf
      repeat' (first
        | ((with_reducible refine regx_of ?_ ?_); (· decide +kernel); conv => whnf)
        | ((with_reducible refine growx_pre ?_ ?_); (· exact ⟨_, rfl⟩); conv => whnf)
        | ((with_reducible refine needm_of ?_ ?_); (· first | assumption | exact decide_eq_true (by omega) | exact mkOK_of (by decide) | decide +kernel | (refine decide_eq_true ?_; simp (disch := omega) only [i64w]; omega)); conv => whnf)
        | ((with_reducible refine condm_pos ?_ ?_); (· assumption); conv => whnf)
        | ((with_reducible refine condm_neg ?_ ?_); (· assumption); conv => whnf)
        | ((with_reducible refine forceL_fv (by assumption) ?_); conv => whnf)
        | ((with_reducible refine forceL_rfv (by assumption) ?_); conv => whnf)
        | ((with_reducible refine forceNm_of ?_); conv => whnf)
        | ((with_reducible refine needm_of (fv_lenL (by assumption) (by assumption)) ?_); conv => whnf)
        | ((with_reducible refine optm_var (fv_strL (by assumption) (by assumption)) (fun s hs => ?_)); conv => whnf)
        | ((with_reducible refine forceA_of ?_); conv => whnf)
        | ((with_reducible refine forceL_pl (by assumption) ?_); conv => whnf)
        | ((with_reducible refine forceL_rpl (by assumption) ?_); conv => whnf)
        | fail)
      refine loopx_iter 1 ?_
      conv => whnf
      repeat' (first
        | ((with_reducible refine regx_of ?_ ?_); (· decide +kernel); conv => whnf)
        | ((with_reducible refine growx_pre ?_ ?_); (· exact ⟨_, rfl⟩); conv => whnf)
        | ((with_reducible refine needm_of ?_ ?_); (· first | assumption | exact decide_eq_true (by omega) | exact mkOK_of (by decide) | decide +kernel | (refine decide_eq_true ?_; simp (disch := omega) only [i64w]; omega)); conv => whnf)
        | ((with_reducible refine condm_pos ?_ ?_); (· assumption); conv => whnf)
        | ((with_reducible refine condm_neg ?_ ?_); (· assumption); conv => whnf)
        | ((with_reducible refine forceL_fv (by assumption) ?_); conv => whnf)
        | ((with_reducible refine forceL_rfv (by assumption) ?_); conv => whnf)
        | ((with_reducible refine forceNm_of ?_); conv => whnf)
        | ((with_reducible refine needm_of (fv_lenL (by assumption) (by assumption)) ?_); conv => whnf)
        | ((with_reducible refine optm_var (fv_strL (by assumption) (by assumption)) (fun s hs => ?_)); conv => whnf)
        | ((with_reducible refine forceA_of ?_); conv => whnf)
        | ((with_reducible refine forceL_pl (by assumption) ?_); conv => whnf)
        | ((with_reducible refine forceL_rpl (by assumption) ?_); conv => whnf)
        | fail)
      refine Go.Eng.Fn.frame [0, 1, 2, 3] (by rfl) (by exact ⟨rfl, rfl, rfl, rfl, trivial⟩) (by rfl) (all20 room [] 0 0 0 [] [] false false rfl (by decide) n0 n0 ?_)
      conv => whnf
      repeat' (first
        | ((with_reducible refine regx_of ?_ ?_); (· decide +kernel); conv => whnf)
        | ((with_reducible refine growx_pre ?_ ?_); (· exact ⟨_, rfl⟩); conv => whnf)
        | ((with_reducible refine needm_of ?_ ?_); (· first | assumption | exact decide_eq_true (by omega) | exact mkOK_of (by decide) | decide +kernel | (refine decide_eq_true ?_; simp (disch := omega) only [i64w]; omega)); conv => whnf)
        | ((with_reducible refine condm_pos ?_ ?_); (· assumption); conv => whnf)
        | ((with_reducible refine condm_neg ?_ ?_); (· assumption); conv => whnf)
        | ((with_reducible refine forceL_fv (by assumption) ?_); conv => whnf)
        | ((with_reducible refine forceL_rfv (by assumption) ?_); conv => whnf)
        | ((with_reducible refine forceNm_of ?_); conv => whnf)
        | ((with_reducible refine needm_of (fv_lenL (by assumption) (by assumption)) ?_); conv => whnf)
        | ((with_reducible refine optm_var (fv_strL (by assumption) (by assumption)) (fun s hs => ?_)); conv => whnf)
        | ((with_reducible refine forceA_of ?_); conv => whnf)
        | ((with_reducible refine forceL_pl (by assumption) ?_); conv => whnf)
        | ((with_reducible refine forceL_rpl (by assumption) ?_); conv => whnf)
        | fail)
      refine Go.Eng.Fn.frame [4, 5, 6, 7] (by rfl) (by exact ⟨rfl, rfl, rfl, rfl, trivial⟩) (by rfl) (all20 room [] 0 0 0 [] [] false false rfl (by decide) n0 n0 ?_)
      conv => whnf
      repeat' (first
        | ((with_reducible refine regx_of ?_ ?_); (· decide +kernel); conv => whnf)
        | ((with_reducible refine growx_pre ?_ ?_); (· exact ⟨_, rfl⟩); conv => whnf)
        | ((with_reducible refine needm_of ?_ ?_); (· first | assumption | exact decide_eq_true (by omega) | exact mkOK_of (by decide) | decide +kernel | (refine decide_eq_true ?_; simp (disch := omega) only [i64w]; omega)); conv => whnf)
        | ((with_reducible refine condm_pos ?_ ?_); (· assumption); conv => whnf)
        | ((with_reducible refine condm_neg ?_ ?_); (· assumption); conv => whnf)
        | ((with_reducible refine forceL_fv (by assumption) ?_); conv => whnf)
        | ((with_reducible refine forceL_rfv (by assumption) ?_); conv => whnf)
        | ((with_reducible refine forceNm_of ?_); conv => whnf)
        | ((with_reducible refine needm_of (fv_lenL (by assumption) (by assumption)) ?_); conv => whnf)
        | ((with_reducible refine optm_var (fv_strL (by assumption) (by assumption)) (fun s hs => ?_)); conv => whnf)
        | ((with_reducible refine forceA_of ?_); conv => whnf)
        | ((with_reducible refine forceL_pl (by assumption) ?_); conv => whnf)
        | ((with_reducible refine forceL_rpl (by assumption) ?_); conv => whnf)
        | fail)
set_option maxHeartbeats 400000 in
theorem plays_bad (W : World) (y : A) (room : Int) (h : ¬ (1 ≤ room ∧ room ≤ 1024)) :
    Go.Eng.Fn Try.prog (roOf W) 5 [.a (.int .i64 room), .a y] [] (fun v _ => v = .a (.bool true)) := by
  refine Go.Eng.Fn.of_code MT.h5 Try.func5 rfl (Nat.le_of_ble_eq_true rfl) ?_
  conv => whnf
  repeat' (first
    | ((with_reducible refine regx_of ?_ ?_); (· decide +kernel); conv => whnf)
    | ((with_reducible refine growx_pre ?_ ?_); (· exact ⟨_, rfl⟩); conv => whnf)
    | ((with_reducible refine needm_of ?_ ?_); (· first | assumption | exact decide_eq_true (by omega) | exact mkOK_of (by decide) | decide +kernel | (refine decide_eq_true ?_; simp (disch := omega) only [i64w]; omega)); conv => whnf)
    | ((with_reducible refine condm_pos ?_ ?_); (· assumption); conv => whnf)
    | ((with_reducible refine condm_neg ?_ ?_); (· assumption); conv => whnf)
    | ((with_reducible refine forceL_fv (by assumption) ?_); conv => whnf)
    | ((with_reducible refine forceL_rfv (by assumption) ?_); conv => whnf)
    | ((with_reducible refine forceNm_of ?_); conv => whnf)
    | ((with_reducible refine needm_of (fv_lenL (by assumption) (by assumption)) ?_); conv => whnf)
    | ((with_reducible refine optm_var (fv_strL (by assumption) (by assumption)) (fun s hs => ?_)); conv => whnf)
    | ((with_reducible refine forceA_of ?_); conv => whnf)
    | ((with_reducible refine forceL_pl (by assumption) ?_); conv => whnf)
    | ((with_reducible refine forceL_rpl (by assumption) ?_); conv => whnf)
    | fail)
  refine loopx_iter 1 ?_
  conv => whnf
  repeat' (first
    | ((with_reducible refine regx_of ?_ ?_); (· decide +kernel); conv => whnf)
    | ((with_reducible refine growx_pre ?_ ?_); (· exact ⟨_, rfl⟩); conv => whnf)
    | ((with_reducible refine needm_of ?_ ?_); (· first | assumption | exact decide_eq_true (by omega) | exact mkOK_of (by decide) | decide +kernel | (refine decide_eq_true ?_; simp (disch := omega) only [i64w]; omega)); conv => whnf)
    | ((with_reducible refine condm_pos ?_ ?_); (· assumption); conv => whnf)
    | ((with_reducible refine condm_neg ?_ ?_); (· assumption); conv => whnf)
    | ((with_reducible refine forceL_fv (by assumption) ?_); conv => whnf)
    | ((with_reducible refine forceL_rfv (by assumption) ?_); conv => whnf)
    | ((with_reducible refine forceNm_of ?_); conv => whnf)
    | ((with_reducible refine needm_of (fv_lenL (by assumption) (by assumption)) ?_); conv => whnf)
    | ((with_reducible refine optm_var (fv_strL (by assumption) (by assumption)) (fun s hs => ?_)); conv => whnf)
    | ((with_reducible refine forceA_of ?_); conv => whnf)
    | ((with_reducible refine forceL_pl (by assumption) ?_); conv => whnf)
    | ((with_reducible refine forceL_rpl (by assumption) ?_); conv => whnf)
    | fail)
  refine Go.Eng.Fn.frame [] (by rfl) (by exact trivial) (by rfl) (new8e room h ?_)
  conv => whnf
  repeat' (first
    | ((with_reducible refine regx_of ?_ ?_); (· decide +kernel); conv => whnf)
    | ((with_reducible refine growx_pre ?_ ?_); (· exact ⟨_, rfl⟩); conv => whnf)
    | ((with_reducible refine needm_of ?_ ?_); (· first | assumption | exact decide_eq_true (by omega) | exact mkOK_of (by decide) | decide +kernel | (refine decide_eq_true ?_; simp (disch := omega) only [i64w]; omega)); conv => whnf)
    | ((with_reducible refine condm_pos ?_ ?_); (· assumption); conv => whnf)
    | ((with_reducible refine condm_neg ?_ ?_); (· assumption); conv => whnf)
    | ((with_reducible refine forceL_fv (by assumption) ?_); conv => whnf)
    | ((with_reducible refine forceL_rfv (by assumption) ?_); conv => whnf)
    | ((with_reducible refine forceNm_of ?_); conv => whnf)
    | ((with_reducible refine needm_of (fv_lenL (by assumption) (by assumption)) ?_); conv => whnf)
    | ((with_reducible refine optm_var (fv_strL (by assumption) (by assumption)) (fun s hs => ?_)); conv => whnf)
    | ((with_reducible refine forceA_of ?_); conv => whnf)
    | ((with_reducible refine forceL_pl (by assumption) ?_); conv => whnf)
    | ((with_reducible refine forceL_rpl (by assumption) ?_); conv => whnf)
    | fail)
  refine Go.Eng.Fn.frame [] (by rfl) (by exact trivial) (by rfl) (new18e room h ?_)
  conv => whnf
  repeat' (first
    | ((with_reducible refine regx_of ?_ ?_); (· decide +kernel); conv => whnf)
    | ((with_reducible refine growx_pre ?_ ?_); (· exact ⟨_, rfl⟩); conv => whnf)
    | ((with_reducible refine needm_of ?_ ?_); (· first | assumption | exact decide_eq_true (by omega) | exact mkOK_of (by decide) | decide +kernel | (refine decide_eq_true ?_; simp (disch := omega) only [i64w]; omega)); conv => whnf)
    | ((with_reducible refine condm_pos ?_ ?_); (· assumption); conv => whnf)
    | ((with_reducible refine condm_neg ?_ ?_); (· assumption); conv => whnf)
    | ((with_reducible refine forceL_fv (by assumption) ?_); conv => whnf)
    | ((with_reducible refine forceL_rfv (by assumption) ?_); conv => whnf)
    | ((with_reducible refine forceNm_of ?_); conv => whnf)
    | ((with_reducible refine needm_of (fv_lenL (by assumption) (by assumption)) ?_); conv => whnf)
    | ((with_reducible refine optm_var (fv_strL (by assumption) (by assumption)) (fun s hs => ?_)); conv => whnf)
    | ((with_reducible refine forceA_of ?_); conv => whnf)
    | ((with_reducible refine forceL_pl (by assumption) ?_); conv => whnf)
    | ((with_reducible refine forceL_rpl (by assumption) ?_); conv => whnf)
    | fail)
theorem top5 (W : World) (room : Int) (_ : IntKind.i64.min ≤ room ∧ room ≤ IntKind.i64.max) (y : A) (len cap : Nat) (G : Nat → List A) (hG : IsSl W 7 KO y len cap G) :
    Go.Eng.Fn Try.prog (roOf W) 5 [.a (.int .i64 room), .a y] [] (fun v _ => v = .a (.bool true)) := by
  by_cases hr : 1 ≤ room ∧ room ≤ 1024
  · obtain ⟨n, rfl⟩ : ∃ n : Nat, room = n := ⟨room.toNat, by omega⟩
    rcases id hG with ⟨rfl, _⟩ | ⟨p, rfl, hp1, hp2, _⟩
    · exact plays_nil W n (by omega) (by omega)
    · exact plays W p len cap G hG (by unfold maxLen at hp2; omega) n (by omega) (by omega)
  · exact plays_bad W y room hr
end
end Go.Proofs.Ytkggpkgnkppceaa.LK
