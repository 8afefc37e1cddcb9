import Derived.Test.YtkggpkgnkppceaaMG
namespace Go.Proofs.Ytkggpkgnkppceaa.LK
open Go.Eng
set_option maxRecDepth 100000
section
variable {ro : Addr → A → Prop}
set_option maxHeartbeats 4000000 in
theorem step19 (room : Nat) (hroom : room ≤ 1024) (L : List Fl) (cap1 cap2 : Nat) (cs1 cs2 : List A) (mk1 mk2 : Bool) (hr : L.length ≤ room) (N1 : Nt L cs1 cap1) (N2 : Nt L cs2 cap2)
    (st : List A) (w kd i j : Int) (f t : UInt8) (s : ByteArray) (hst : st = [.int .i64 w, .int .i64 kd, .int .i64 i, .int .i64 j, .int .u8 (f.toNat : Int), .int .u8 (t.toNat : Int), .str s]) {K : V → Hp → Prop}
    (hKa : ∀ (L' : List Fl) (n' cap1' cap2' : Nat) (cs1' cs2' : List A), n' = L'.length → L'.length ≤ room → Nt L' cs1' cap1' → Nt L' cs2' cap2' → K (.a (.bool true)) [.cells [.int .i64 room, .slc 1 0 n' cap1'] 57 false, .cells cs1' 61 mk1, .cells [.int .i64 room, .slc 3 0 n' cap2'] 47 false, .cells cs2' 69 mk2])
    (hKb : ∀ (L' : List Fl) (n' cap1' cap2' : Nat) (cs1' cs2' : List A), n' = L'.length → L'.length ≤ room → Nt L' cs1' cap1' → Nt L' cs2' cap2' → K (.a (.bool true)) [.cells [.int .i64 room, .slc 4 0 n' cap1'] 57 false, .cells cs1 61 mk1, .cells [.int .i64 room, .slc 3 0 n' cap2'] 47 false, .cells cs2' 69 mk2, .cells cs1' 61 false])
    (hKc : ∀ (L' : List Fl) (n' cap1' cap2' : Nat) (cs1' cs2' : List A) (mk' : Bool), n' = L'.length → L'.length ≤ room → Nt L' cs1' cap1' → Nt L' cs2' cap2' → K (.a (.bool true)) [.cells [.int .i64 room, .slc 1 0 n' cap1'] 57 false, .cells cs1' 61 mk1, .cells [.int .i64 room, .slc 4 0 n' cap2'] 47 false, .cells cs2 69 mk2, .cells cs2' 69 mk'])
    (hKd : ∀ (L' : List Fl) (n' cap1' cap2' : Nat) (cs1' cs2' : List A) (mk' : Bool), n' = L'.length → L'.length ≤ room → Nt L' cs1' cap1' → Nt L' cs2' cap2' → K (.a (.bool true)) [.cells [.int .i64 room, .slc 5 0 n' cap1'] 57 false, .cells cs1 61 mk1, .cells [.int .i64 room, .slc 4 0 n' cap2'] 47 false, .cells cs2 69 mk2, .cells cs2' 69 mk', .cells cs1' 61 false]) :
    Go.Eng.Fn Try.prog ro 19 [.a (.ptr 0 0), .a (.ptr 2 0), .g st] [.cells [.int .i64 room, .slc 1 0 L.length cap1] 57 false, .cells cs1 61 mk1, .cells [.int .i64 room, .slc 3 0 L.length cap2] 47 false, .cells cs2 69 mk2] K := by
  have h1 := N1.pl
  have h2 := N2.pl
  have N1' := N1
  have N2' := N2
  obtain ⟨y1, e1, c1⟩ := N1
  obtain ⟨y2, e2, c2⟩ := N2
  have hL : L.length ≤ 1024 := by omega
  obtain ⟨z3, hz3⟩ : ∃ z : List A, z = [.int .u8 0, .int .u8 0, .str { data := #[] }] := ⟨_, rfl⟩
  have hzp : Pl z3 := by rw [hz3]; exact ⟨fun _ => rfl, fun _ => rfl⟩
  have hzl : z3.length = 3 := by rw [hz3]; rfl
  have hrz : repl z3 (1 * Try.prog.types[69].size) = z3 := by rw [hz3]; rfl
  have hsp : Pl st := by rw [hst]; exact ⟨fun _ => rfl, fun _ => rfl⟩
  have g1 : st[0 + 1]? = some (.int .i64 kd) := by rw [hst]; rfl
  have g2 : st[0 + 2]? = some (.int .i64 i) := by rw [hst]; rfl
  have g3 : st[0 + 3]? = some (.int .i64 j) := by rw [hst]; rfl
  have g4 : st[0 + 4]? = some (.int .u8 (f.toNat : Int)) := by rw [hst]; rfl
  have g5 : st[0 + 5]? = some (.int .u8 (t.toNat : Int)) := by rw [hst]; rfl
  have g6 : st[0 + 6]? = some (.str s) := by rw [hst]; rfl
  clear hst
  refine Go.Eng.Fn.weak ?_
  refine Go.Eng.Fn.of 4 (gOf []) rfl Try.func19 rfl (Nat.le_of_ble_eq_true rfl) ?_
  conv => whnf
  repeat' (first
    | rw [← hz3]
    | rw [hrz]
    | rw [Nat.zero_mul Try.prog.types[69].size]
    | ((with_reducible refine regx_of ?_ ?_); (· decide +kernel); conv => whnf)
    | ((with_reducible refine growx_pre ?_ ?_); (· exact ⟨_, rfl⟩); conv => whnf)
    | ((with_reducible refine needm_of ?_ ?_); (· first | assumption | exact decide_eq_true (by omega) | exact mkOK_of (by decide) | decide +kernel | (refine decide_eq_true ?_; simp (disch := omega) only [i64w]; omega)); conv => whnf)
    | ((with_reducible refine condm_pos ?_ ?_); (· assumption); conv => whnf)
    | ((with_reducible refine condm_neg ?_ ?_); (· assumption); conv => whnf)
    | ((with_reducible refine forceL_fv (by assumption) ?_); conv => whnf)
    | ((with_reducible refine forceL_rfv (by assumption) ?_); conv => whnf)
    | ((with_reducible refine forceNm_of ?_); conv => whnf)
    | ((with_reducible refine needm_of (fv_lenL (by assumption) (by assumption)) ?_); conv => whnf)
    | ((with_reducible refine optm_var (fv_strL (by assumption) (by assumption)) (fun s hs => ?_)); conv => whnf)
    | ((with_reducible refine forceA_of ?_); conv => whnf)
    | ((with_reducible refine forceL_pl (by assumption) ?_); conv => whnf)
    | ((with_reducible refine forceL_rpl (by assumption) ?_); conv => whnf)
    | ((with_reducible refine needm_of ?_ ?_); (· first | (rw [hxl, hzl]; rfl) | (rw [hxl]; rfl)); conv => whnf)
    | ((with_reducible refine forceL_to (whole_of ?_) ?_); (· rw [hxl]; rfl); conv => whnf)
    | ((with_reducible refine forceL_to (store_all ?_) ?_); (· first | rw [hxl, hzl] | rfl); conv => whnf)
    | ((with_reducible apply optm_of); (· first | exact g1 | exact g2 | exact g3 | exact g4 | exact g5 | exact g6); conv => whnf)
    | fail)
  refine condm_of (fun k0 => ?_) (fun k0 => ?_)
  ·
    conv => whnf
    repeat' (first
      | rw [← hz3]
      | rw [hrz]
      | rw [Nat.zero_mul Try.prog.types[69].size]
      | ((with_reducible refine regx_of ?_ ?_); (· decide +kernel); conv => whnf)
      | ((with_reducible refine growx_pre ?_ ?_); (· exact ⟨_, rfl⟩); conv => whnf)
      | ((with_reducible refine needm_of ?_ ?_); (· first | assumption | exact decide_eq_true (by omega) | exact mkOK_of (by decide) | decide +kernel | (refine decide_eq_true ?_; simp (disch := omega) only [i64w]; omega)); conv => whnf)
      | ((with_reducible refine condm_pos ?_ ?_); (· assumption); conv => whnf)
      | ((with_reducible refine condm_neg ?_ ?_); (· assumption); conv => whnf)
      | ((with_reducible refine forceL_fv (by assumption) ?_); conv => whnf)
      | ((with_reducible refine forceL_rfv (by assumption) ?_); conv => whnf)
      | ((with_reducible refine forceNm_of ?_); conv => whnf)
      | ((with_reducible refine needm_of (fv_lenL (by assumption) (by assumption)) ?_); conv => whnf)
      | ((with_reducible refine optm_var (fv_strL (by assumption) (by assumption)) (fun s hs => ?_)); conv => whnf)
      | ((with_reducible refine forceA_of ?_); conv => whnf)
      | ((with_reducible refine forceL_pl (by assumption) ?_); conv => whnf)
      | ((with_reducible refine forceL_rpl (by assumption) ?_); conv => whnf)
      | ((with_reducible refine needm_of ?_ ?_); (· first | (rw [hxl, hzl]; rfl) | (rw [hxl]; rfl)); conv => whnf)
      | ((with_reducible refine forceL_to (whole_of ?_) ?_); (· rw [hxl]; rfl); conv => whnf)
      | ((with_reducible refine forceL_to (store_all ?_) ?_); (· first | rw [hxl, hzl] | rfl); conv => whnf)
      | ((with_reducible apply optm_of); (· first | exact g1 | exact g2 | exact g3 | exact g4 | exact g5 | exact g6); conv => whnf)
      | fail)
    refine Go.Eng.Fn.frame [2, 3] (by rfl) (by exact ⟨rfl, ren_pl h2 _ _ _, trivial⟩) (by simp [nodupb, V.okb, A.okb, Ob.okb, h2.2] <;> decide) (send28 room f t s L y2 cs2 cap2 mk2 e2 c2 hL (fun ho => ?_) (fun ho hl => ?_) (fun ho hl y2' cs2' e2' c2' => ?_) (fun ho hl y2' cs2' cap2' e2' c2' => ?_))
    · skip
      conv => whnf
      repeat' (first
        | rw [← hz3]
        | rw [hrz]
        | rw [Nat.zero_mul Try.prog.types[69].size]
        | ((with_reducible refine regx_of ?_ ?_); (· decide +kernel); conv => whnf)
        | ((with_reducible refine growx_pre ?_ ?_); (· exact ⟨_, rfl⟩); conv => whnf)
        | ((with_reducible refine needm_of ?_ ?_); (· first | assumption | exact decide_eq_true (by omega) | exact mkOK_of (by decide) | decide +kernel | (refine decide_eq_true ?_; simp (disch := omega) only [i64w]; omega)); conv => whnf)
        | ((with_reducible refine condm_pos ?_ ?_); (· assumption); conv => whnf)
        | ((with_reducible refine condm_neg ?_ ?_); (· assumption); conv => whnf)
        | ((with_reducible refine forceL_fv (by assumption) ?_); conv => whnf)
        | ((with_reducible refine forceL_rfv (by assumption) ?_); conv => whnf)
        | ((with_reducible refine forceNm_of ?_); conv => whnf)
        | ((with_reducible refine needm_of (fv_lenL (by assumption) (by assumption)) ?_); conv => whnf)
        | ((with_reducible refine optm_var (fv_strL (by assumption) (by assumption)) (fun s hs => ?_)); conv => whnf)
        | ((with_reducible refine forceA_of ?_); conv => whnf)
        | ((with_reducible refine forceL_pl (by assumption) ?_); conv => whnf)
        | ((with_reducible refine forceL_rpl (by assumption) ?_); conv => whnf)
        | ((with_reducible refine needm_of ?_ ?_); (· first | (rw [hxl, hzl]; rfl) | (rw [hxl]; rfl)); conv => whnf)
        | ((with_reducible refine forceL_to (whole_of ?_) ?_); (· rw [hxl]; rfl); conv => whnf)
        | ((with_reducible refine forceL_to (store_all ?_) ?_); (· first | rw [hxl, hzl] | rfl); conv => whnf)
        | ((with_reducible apply optm_of); (· first | exact g1 | exact g2 | exact g3 | exact g4 | exact g5 | exact g6); conv => whnf)
        | fail)
      refine Go.Eng.Fn.frame [0, 1] (by rfl) (by exact ⟨rfl, ren_pl h1 _ _ _, trivial⟩) (by simp [nodupb, V.okb, A.okb, Ob.okb, h1.2] <;> decide) (send9 room f t s L y1 cs1 cap1 mk1 e1 c1 hL (fun ho' => ?_) (fun ho' hl' => by rw [ho] at ho'; cases ho') (fun ho' hl' y1' cs1' e1' c1' => by rw [ho] at ho'; cases ho') (fun ho' hl' y1' cs1' cap1' e1' c1' => by rw [ho] at ho'; cases ho'))
      conv => whnf
      repeat' (first
        | rw [← hz3]
        | rw [hrz]
        | rw [Nat.zero_mul Try.prog.types[69].size]
        | ((with_reducible refine regx_of ?_ ?_); (· decide +kernel); conv => whnf)
        | ((with_reducible refine growx_pre ?_ ?_); (· exact ⟨_, rfl⟩); conv => whnf)
        | ((with_reducible refine needm_of ?_ ?_); (· first | assumption | exact decide_eq_true (by omega) | exact mkOK_of (by decide) | decide +kernel | (refine decide_eq_true ?_; simp (disch := omega) only [i64w]; omega)); conv => whnf)
        | ((with_reducible refine condm_pos ?_ ?_); (· assumption); conv => whnf)
        | ((with_reducible refine condm_neg ?_ ?_); (· assumption); conv => whnf)
        | ((with_reducible refine forceL_fv (by assumption) ?_); conv => whnf)
        | ((with_reducible refine forceL_rfv (by assumption) ?_); conv => whnf)
        | ((with_reducible refine forceNm_of ?_); conv => whnf)
        | ((with_reducible refine needm_of (fv_lenL (by assumption) (by assumption)) ?_); conv => whnf)
        | ((with_reducible refine optm_var (fv_strL (by assumption) (by assumption)) (fun s hs => ?_)); conv => whnf)
        | ((with_reducible refine forceA_of ?_); conv => whnf)
        | ((with_reducible refine forceL_pl (by assumption) ?_); conv => whnf)
        | ((with_reducible refine forceL_rpl (by assumption) ?_); conv => whnf)
        | ((with_reducible refine needm_of ?_ ?_); (· first | (rw [hxl, hzl]; rfl) | (rw [hxl]; rfl)); conv => whnf)
        | ((with_reducible refine forceL_to (whole_of ?_) ?_); (· rw [hxl]; rfl); conv => whnf)
        | ((with_reducible refine forceL_to (store_all ?_) ?_); (· first | rw [hxl, hzl] | rfl); conv => whnf)
        | ((with_reducible apply optm_of); (· first | exact g1 | exact g2 | exact g3 | exact g4 | exact g5 | exact g6); conv => whnf)
        | fail)
      exact keepOf (v₀ := .a (.bool true)) [.cells [.int .i64 room, .slc 1 0 L.length cap1] 57 false, .cells cs1 61 mk1, .cells [.int .i64 room, .slc 3 0 L.length cap2] 47 false, .cells cs2 69 mk2] [0, 1, 2, 3] rfl ⟨rfl, ren_pl h1 _ _ _, rfl, ren_pl h2 _ _ _, trivial⟩ (by simp [nodupb, baseb, Ob.okb, frmOk, V.okb, A.okb, h1.2, h2.2] <;> decide) (hKa L L.length cap1 cap2 cs1 cs2 rfl hr ⟨y1, e1, c1⟩ ⟨y2, e2, c2⟩)
    · skip
      conv => whnf
      repeat' (first
        | rw [← hz3]
        | rw [hrz]
        | rw [Nat.zero_mul Try.prog.types[69].size]
        | ((with_reducible refine regx_of ?_ ?_); (· decide +kernel); conv => whnf)
        | ((with_reducible refine growx_pre ?_ ?_); (· exact ⟨_, rfl⟩); conv => whnf)
        | ((with_reducible refine needm_of ?_ ?_); (· first | assumption | exact decide_eq_true (by omega) | exact mkOK_of (by decide) | decide +kernel | (refine decide_eq_true ?_; simp (disch := omega) only [i64w]; omega)); conv => whnf)
        | ((with_reducible refine condm_pos ?_ ?_); (· assumption); conv => whnf)
        | ((with_reducible refine condm_neg ?_ ?_); (· assumption); conv => whnf)
        | ((with_reducible refine forceL_fv (by assumption) ?_); conv => whnf)
        | ((with_reducible refine forceL_rfv (by assumption) ?_); conv => whnf)
        | ((with_reducible refine forceNm_of ?_); conv => whnf)
        | ((with_reducible refine needm_of (fv_lenL (by assumption) (by assumption)) ?_); conv => whnf)
        | ((with_reducible refine optm_var (fv_strL (by assumption) (by assumption)) (fun s hs => ?_)); conv => whnf)
        | ((with_reducible refine forceA_of ?_); conv => whnf)
        | ((with_reducible refine forceL_pl (by assumption) ?_); conv => whnf)
        | ((with_reducible refine forceL_rpl (by assumption) ?_); conv => whnf)
        | ((with_reducible refine needm_of ?_ ?_); (· first | (rw [hxl, hzl]; rfl) | (rw [hxl]; rfl)); conv => whnf)
        | ((with_reducible refine forceL_to (whole_of ?_) ?_); (· rw [hxl]; rfl); conv => whnf)
        | ((with_reducible refine forceL_to (store_all ?_) ?_); (· first | rw [hxl, hzl] | rfl); conv => whnf)
        | ((with_reducible apply optm_of); (· first | exact g1 | exact g2 | exact g3 | exact g4 | exact g5 | exact g6); conv => whnf)
        | fail)
      refine Go.Eng.Fn.frame [0, 1] (by rfl) (by exact ⟨rfl, ren_pl h1 _ _ _, trivial⟩) (by simp [nodupb, V.okb, A.okb, Ob.okb, h1.2] <;> decide) (send9 room f t s L y1 cs1 cap1 mk1 e1 c1 hL (fun ho' => by rw [ho] at ho'; cases ho') (fun ho' hl' => ?_) (fun ho' hl' y1' cs1' e1' c1' => by omega) (fun ho' hl' y1' cs1' cap1' e1' c1' => by omega))
      conv => whnf
      repeat' (first
        | rw [← hz3]
        | rw [hrz]
        | rw [Nat.zero_mul Try.prog.types[69].size]
        | ((with_reducible refine regx_of ?_ ?_); (· decide +kernel); conv => whnf)
        | ((with_reducible refine growx_pre ?_ ?_); (· exact ⟨_, rfl⟩); conv => whnf)
        | ((with_reducible refine needm_of ?_ ?_); (· first | assumption | exact decide_eq_true (by omega) | exact mkOK_of (by decide) | decide +kernel | (refine decide_eq_true ?_; simp (disch := omega) only [i64w]; omega)); conv => whnf)
        | ((with_reducible refine condm_pos ?_ ?_); (· assumption); conv => whnf)
        | ((with_reducible refine condm_neg ?_ ?_); (· assumption); conv => whnf)
        | ((with_reducible refine forceL_fv (by assumption) ?_); conv => whnf)
        | ((with_reducible refine forceL_rfv (by assumption) ?_); conv => whnf)
        | ((with_reducible refine forceNm_of ?_); conv => whnf)
        | ((with_reducible refine needm_of (fv_lenL (by assumption) (by assumption)) ?_); conv => whnf)
        | ((with_reducible refine optm_var (fv_strL (by assumption) (by assumption)) (fun s hs => ?_)); conv => whnf)
        | ((with_reducible refine forceA_of ?_); conv => whnf)
        | ((with_reducible refine forceL_pl (by assumption) ?_); conv => whnf)
        | ((with_reducible refine forceL_rpl (by assumption) ?_); conv => whnf)
        | ((with_reducible refine needm_of ?_ ?_); (· first | (rw [hxl, hzl]; rfl) | (rw [hxl]; rfl)); conv => whnf)
        | ((with_reducible refine forceL_to (whole_of ?_) ?_); (· rw [hxl]; rfl); conv => whnf)
        | ((with_reducible refine forceL_to (store_all ?_) ?_); (· first | rw [hxl, hzl] | rfl); conv => whnf)
        | ((with_reducible apply optm_of); (· first | exact g1 | exact g2 | exact g3 | exact g4 | exact g5 | exact g6); conv => whnf)
        | fail)
      exact keepOf (v₀ := .a (.bool true)) [.cells [.int .i64 room, .slc 1 0 L.length cap1] 57 false, .cells cs1 61 mk1, .cells [.int .i64 room, .slc 3 0 L.length cap2] 47 false, .cells cs2 69 mk2] [0, 1, 2, 3] rfl ⟨rfl, ren_pl h1 _ _ _, rfl, ren_pl h2 _ _ _, trivial⟩ (by simp [nodupb, baseb, Ob.okb, frmOk, V.okb, A.okb, h1.2, h2.2] <;> decide) (hKa L L.length cap1 cap2 cs1 cs2 rfl hr ⟨y1, e1, c1⟩ ⟨y2, e2, c2⟩)
    · skip
      skip
      obtain ⟨M, hM⟩ : ∃ M, M = L ++ [(⟨f, t, s⟩ : Fl)] := ⟨_, rfl⟩
      rw [← hM] at e2' c2' ⊢
      have hMl : M.length = L.length + 1 := by rw [hM]; simp
      have hMr : M.length ≤ room := by omega
      have q2 := Pl.fls e2'
      conv => whnf
      repeat' (first
        | rw [← hz3]
        | rw [hrz]
        | rw [Nat.zero_mul Try.prog.types[69].size]
        | ((with_reducible refine regx_of ?_ ?_); (· decide +kernel); conv => whnf)
        | ((with_reducible refine growx_pre ?_ ?_); (· exact ⟨_, rfl⟩); conv => whnf)
        | ((with_reducible refine needm_of ?_ ?_); (· first | assumption | exact decide_eq_true (by omega) | exact mkOK_of (by decide) | decide +kernel | (refine decide_eq_true ?_; simp (disch := omega) only [i64w]; omega)); conv => whnf)
        | ((with_reducible refine condm_pos ?_ ?_); (· assumption); conv => whnf)
        | ((with_reducible refine condm_neg ?_ ?_); (· assumption); conv => whnf)
        | ((with_reducible refine forceL_fv (by assumption) ?_); conv => whnf)
        | ((with_reducible refine forceL_rfv (by assumption) ?_); conv => whnf)
        | ((with_reducible refine forceNm_of ?_); conv => whnf)
        | ((with_reducible refine needm_of (fv_lenL (by assumption) (by assumption)) ?_); conv => whnf)
        | ((with_reducible refine optm_var (fv_strL (by assumption) (by assumption)) (fun s hs => ?_)); conv => whnf)
        | ((with_reducible refine forceA_of ?_); conv => whnf)
        | ((with_reducible refine forceL_pl (by assumption) ?_); conv => whnf)
        | ((with_reducible refine forceL_rpl (by assumption) ?_); conv => whnf)
        | ((with_reducible refine needm_of ?_ ?_); (· first | (rw [hxl, hzl]; rfl) | (rw [hxl]; rfl)); conv => whnf)
        | ((with_reducible refine forceL_to (whole_of ?_) ?_); (· rw [hxl]; rfl); conv => whnf)
        | ((with_reducible refine forceL_to (store_all ?_) ?_); (· first | rw [hxl, hzl] | rfl); conv => whnf)
        | ((with_reducible apply optm_of); (· first | exact g1 | exact g2 | exact g3 | exact g4 | exact g5 | exact g6); conv => whnf)
        | fail)
      refine Go.Eng.Fn.frame [0, 1] (by rfl) (by exact ⟨rfl, ren_pl h1 _ _ _, trivial⟩) (by simp [nodupb, V.okb, A.okb, Ob.okb, h1.2] <;> decide) (send9 room f t s L y1 cs1 cap1 mk1 e1 c1 hL (fun ho' => by rw [ho] at ho'; cases ho') (fun ho' hl' => by omega) (fun ho' hl' y1' cs1' e1' c1' => ?_) (fun ho' hl' y1' cs1' cap1' e1' c1' => ?_))
      · skip
        skip
        rw [← hM] at e1' c1' ⊢
        have q1 := Pl.fls e1'
        conv => whnf
        repeat' (first
          | rw [← hz3]
          | rw [hrz]
          | rw [Nat.zero_mul Try.prog.types[69].size]
          | ((with_reducible refine regx_of ?_ ?_); (· decide +kernel); conv => whnf)
          | ((with_reducible refine growx_pre ?_ ?_); (· exact ⟨_, rfl⟩); conv => whnf)
          | ((with_reducible refine needm_of ?_ ?_); (· first | assumption | exact decide_eq_true (by omega) | exact mkOK_of (by decide) | decide +kernel | (refine decide_eq_true ?_; simp (disch := omega) only [i64w]; omega)); conv => whnf)
          | ((with_reducible refine condm_pos ?_ ?_); (· assumption); conv => whnf)
          | ((with_reducible refine condm_neg ?_ ?_); (· assumption); conv => whnf)
          | ((with_reducible refine forceL_fv (by assumption) ?_); conv => whnf)
          | ((with_reducible refine forceL_rfv (by assumption) ?_); conv => whnf)
          | ((with_reducible refine forceNm_of ?_); conv => whnf)
          | ((with_reducible refine needm_of (fv_lenL (by assumption) (by assumption)) ?_); conv => whnf)
          | ((with_reducible refine optm_var (fv_strL (by assumption) (by assumption)) (fun s hs => ?_)); conv => whnf)
          | ((with_reducible refine forceA_of ?_); conv => whnf)
          | ((with_reducible refine forceL_pl (by assumption) ?_); conv => whnf)
          | ((with_reducible refine forceL_rpl (by assumption) ?_); conv => whnf)
          | ((with_reducible refine needm_of ?_ ?_); (· first | (rw [hxl, hzl]; rfl) | (rw [hxl]; rfl)); conv => whnf)
          | ((with_reducible refine forceL_to (whole_of ?_) ?_); (· rw [hxl]; rfl); conv => whnf)
          | ((with_reducible refine forceL_to (store_all ?_) ?_); (· first | rw [hxl, hzl] | rfl); conv => whnf)
          | ((with_reducible apply optm_of); (· first | exact g1 | exact g2 | exact g3 | exact g4 | exact g5 | exact g6); conv => whnf)
          | fail)
        exact keepOf (v₀ := .a (.bool true)) [.cells [.int .i64 room, .slc 1 0 M.length cap1] 57 false, .cells cs1' 61 mk1, .cells [.int .i64 room, .slc 3 0 M.length cap2] 47 false, .cells cs2' 69 mk2] [0, 1, 2, 3] rfl ⟨rfl, ren_pl q1 _ _ _, rfl, ren_pl q2 _ _ _, trivial⟩ (by simp [nodupb, baseb, Ob.okb, frmOk, V.okb, A.okb, q1.2, q2.2] <;> decide) (hKa M M.length cap1 cap2 cs1' cs2' rfl hMr ⟨y1', e1', c1'⟩ ⟨y2', e2', c2'⟩)
      · skip
        skip
        rw [← hM] at e1' c1' ⊢
        have q1 := Pl.fls e1'
        conv => whnf
        repeat' (first
          | rw [← hz3]
          | rw [hrz]
          | rw [Nat.zero_mul Try.prog.types[69].size]
          | ((with_reducible refine regx_of ?_ ?_); (· decide +kernel); conv => whnf)
          | ((with_reducible refine growx_pre ?_ ?_); (· exact ⟨_, rfl⟩); conv => whnf)
          | ((with_reducible refine needm_of ?_ ?_); (· first | assumption | exact decide_eq_true (by omega) | exact mkOK_of (by decide) | decide +kernel | (refine decide_eq_true ?_; simp (disch := omega) only [i64w]; omega)); conv => whnf)
          | ((with_reducible refine condm_pos ?_ ?_); (· assumption); conv => whnf)
          | ((with_reducible refine condm_neg ?_ ?_); (· assumption); conv => whnf)
          | ((with_reducible refine forceL_fv (by assumption) ?_); conv => whnf)
          | ((with_reducible refine forceL_rfv (by assumption) ?_); conv => whnf)
          | ((with_reducible refine forceNm_of ?_); conv => whnf)
          | ((with_reducible refine needm_of (fv_lenL (by assumption) (by assumption)) ?_); conv => whnf)
          | ((with_reducible refine optm_var (fv_strL (by assumption) (by assumption)) (fun s hs => ?_)); conv => whnf)
          | ((with_reducible refine forceA_of ?_); conv => whnf)
          | ((with_reducible refine forceL_pl (by assumption) ?_); conv => whnf)
          | ((with_reducible refine forceL_rpl (by assumption) ?_); conv => whnf)
          | ((with_reducible refine needm_of ?_ ?_); (· first | (rw [hxl, hzl]; rfl) | (rw [hxl]; rfl)); conv => whnf)
          | ((with_reducible refine forceL_to (whole_of ?_) ?_); (· rw [hxl]; rfl); conv => whnf)
          | ((with_reducible refine forceL_to (store_all ?_) ?_); (· first | rw [hxl, hzl] | rfl); conv => whnf)
          | ((with_reducible apply optm_of); (· first | exact g1 | exact g2 | exact g3 | exact g4 | exact g5 | exact g6); conv => whnf)
          | fail)
        exact keepOf (v₀ := .a (.bool true)) [.cells [.int .i64 room, .slc 4 0 M.length cap1'] 57 false, .cells cs1 61 mk1, .cells [.int .i64 room, .slc 3 0 M.length cap2] 47 false, .cells cs2' 69 mk2, .cells cs1' 61 false] [0, 1, 2, 3, 5] rfl ⟨rfl, ren_pl h1 _ _ _, rfl, ren_pl q2 _ _ _, ren_pl q1 _ _ _, trivial⟩ (by simp [nodupb, baseb, Ob.okb, frmOk, V.okb, A.okb, h1.2, q1.2, q2.2] <;> decide) (hKb M M.length cap1' cap2 cs1' cs2' rfl hMr ⟨y1', e1', c1'⟩ ⟨y2', e2', c2'⟩)
    · skip
      skip
      obtain ⟨M, hM⟩ : ∃ M, M = L ++ [(⟨f, t, s⟩ : Fl)] := ⟨_, rfl⟩
      rw [← hM] at e2' c2' ⊢
      have hMl : M.length = L.length + 1 := by rw [hM]; simp
      have hMr : M.length ≤ room := by omega
      have q2 := Pl.fls e2'
      conv => whnf
      repeat' (first
        | rw [← hz3]
        | rw [hrz]
        | rw [Nat.zero_mul Try.prog.types[69].size]
        | ((with_reducible refine regx_of ?_ ?_); (· decide +kernel); conv => whnf)
        | ((with_reducible refine growx_pre ?_ ?_); (· exact ⟨_, rfl⟩); conv => whnf)
        | ((with_reducible refine needm_of ?_ ?_); (· first | assumption | exact decide_eq_true (by omega) | exact mkOK_of (by decide) | decide +kernel | (refine decide_eq_true ?_; simp (disch := omega) only [i64w]; omega)); conv => whnf)
        | ((with_reducible refine condm_pos ?_ ?_); (· assumption); conv => whnf)
        | ((with_reducible refine condm_neg ?_ ?_); (· assumption); conv => whnf)
        | ((with_reducible refine forceL_fv (by assumption) ?_); conv => whnf)
        | ((with_reducible refine forceL_rfv (by assumption) ?_); conv => whnf)
        | ((with_reducible refine forceNm_of ?_); conv => whnf)
        | ((with_reducible refine needm_of (fv_lenL (by assumption) (by assumption)) ?_); conv => whnf)
        | ((with_reducible refine optm_var (fv_strL (by assumption) (by assumption)) (fun s hs => ?_)); conv => whnf)
        | ((with_reducible refine forceA_of ?_); conv => whnf)
        | ((with_reducible refine forceL_pl (by assumption) ?_); conv => whnf)
        | ((with_reducible refine forceL_rpl (by assumption) ?_); conv => whnf)
        | ((with_reducible refine needm_of ?_ ?_); (· first | (rw [hxl, hzl]; rfl) | (rw [hxl]; rfl)); conv => whnf)
        | ((with_reducible refine forceL_to (whole_of ?_) ?_); (· rw [hxl]; rfl); conv => whnf)
        | ((with_reducible refine forceL_to (store_all ?_) ?_); (· first | rw [hxl, hzl] | rfl); conv => whnf)
        | ((with_reducible apply optm_of); (· first | exact g1 | exact g2 | exact g3 | exact g4 | exact g5 | exact g6); conv => whnf)
        | fail)
      refine Go.Eng.Fn.frame [0, 1] (by rfl) (by exact ⟨rfl, ren_pl h1 _ _ _, trivial⟩) (by simp [nodupb, V.okb, A.okb, Ob.okb, h1.2] <;> decide) (send9 room f t s L y1 cs1 cap1 mk1 e1 c1 hL (fun ho' => by rw [ho] at ho'; cases ho') (fun ho' hl' => by omega) (fun ho' hl' y1' cs1' e1' c1' => ?_) (fun ho' hl' y1' cs1' cap1' e1' c1' => ?_))
      · skip
        skip
        rw [← hM] at e1' c1' ⊢
        have q1 := Pl.fls e1'
        conv => whnf
        repeat' (first
          | rw [← hz3]
          | rw [hrz]
          | rw [Nat.zero_mul Try.prog.types[69].size]
          | ((with_reducible refine regx_of ?_ ?_); (· decide +kernel); conv => whnf)
          | ((with_reducible refine growx_pre ?_ ?_); (· exact ⟨_, rfl⟩); conv => whnf)
          | ((with_reducible refine needm_of ?_ ?_); (· first | assumption | exact decide_eq_true (by omega) | exact mkOK_of (by decide) | decide +kernel | (refine decide_eq_true ?_; simp (disch := omega) only [i64w]; omega)); conv => whnf)
          | ((with_reducible refine condm_pos ?_ ?_); (· assumption); conv => whnf)
          | ((with_reducible refine condm_neg ?_ ?_); (· assumption); conv => whnf)
          | ((with_reducible refine forceL_fv (by assumption) ?_); conv => whnf)
          | ((with_reducible refine forceL_rfv (by assumption) ?_); conv => whnf)
          | ((with_reducible refine forceNm_of ?_); conv => whnf)
          | ((with_reducible refine needm_of (fv_lenL (by assumption) (by assumption)) ?_); conv => whnf)
          | ((with_reducible refine optm_var (fv_strL (by assumption) (by assumption)) (fun s hs => ?_)); conv => whnf)
          | ((with_reducible refine forceA_of ?_); conv => whnf)
          | ((with_reducible refine forceL_pl (by assumption) ?_); conv => whnf)
          | ((with_reducible refine forceL_rpl (by assumption) ?_); conv => whnf)
          | ((with_reducible refine needm_of ?_ ?_); (· first | (rw [hxl, hzl]; rfl) | (rw [hxl]; rfl)); conv => whnf)
          | ((with_reducible refine forceL_to (whole_of ?_) ?_); (· rw [hxl]; rfl); conv => whnf)
          | ((with_reducible refine forceL_to (store_all ?_) ?_); (· first | rw [hxl, hzl] | rfl); conv => whnf)
          | ((with_reducible apply optm_of); (· first | exact g1 | exact g2 | exact g3 | exact g4 | exact g5 | exact g6); conv => whnf)
          | fail)
        exact keepOf (v₀ := .a (.bool true)) [.cells [.int .i64 room, .slc 1 0 M.length cap1] 57 false, .cells cs1' 61 mk1, .cells [.int .i64 room, .slc 4 0 M.length cap2'] 47 false, .cells cs2 69 mk2, .cells cs2' 69 false] [0, 1, 2, 3, 5] rfl ⟨rfl, ren_pl q1 _ _ _, rfl, ren_pl h2 _ _ _, ren_pl q2 _ _ _, trivial⟩ (by simp [nodupb, baseb, Ob.okb, frmOk, V.okb, A.okb, h2.2, q1.2, q2.2] <;> decide) (hKc M M.length cap1 cap2' cs1' cs2' false rfl hMr ⟨y1', e1', c1'⟩ ⟨y2', e2', c2'⟩)
      · skip
        skip
        rw [← hM] at e1' c1' ⊢
        have q1 := Pl.fls e1'
        conv => whnf
        repeat' (first
          | rw [← hz3]
          | rw [hrz]
          | rw [Nat.zero_mul Try.prog.types[69].size]
          | ((with_reducible refine regx_of ?_ ?_); (· decide +kernel); conv => whnf)
          | ((with_reducible refine growx_pre ?_ ?_); (· exact ⟨_, rfl⟩); conv => whnf)
          | ((with_reducible refine needm_of ?_ ?_); (· first | assumption | exact decide_eq_true (by omega) | exact mkOK_of (by decide) | decide +kernel | (refine decide_eq_true ?_; simp (disch := omega) only [i64w]; omega)); conv => whnf)
          | ((with_reducible refine condm_pos ?_ ?_); (· assumption); conv => whnf)
          | ((with_reducible refine condm_neg ?_ ?_); (· assumption); conv => whnf)
          | ((with_reducible refine forceL_fv (by assumption) ?_); conv => whnf)
          | ((with_reducible refine forceL_rfv (by assumption) ?_); conv => whnf)
          | ((with_reducible refine forceNm_of ?_); conv => whnf)
          | ((with_reducible refine needm_of (fv_lenL (by assumption) (by assumption)) ?_); conv => whnf)
          | ((with_reducible refine optm_var (fv_strL (by assumption) (by assumption)) (fun s hs => ?_)); conv => whnf)
          | ((with_reducible refine forceA_of ?_); conv => whnf)
          | ((with_reducible refine forceL_pl (by assumption) ?_); conv => whnf)
          | ((with_reducible refine forceL_rpl (by assumption) ?_); conv => whnf)
          | ((with_reducible refine needm_of ?_ ?_); (· first | (rw [hxl, hzl]; rfl) | (rw [hxl]; rfl)); conv => whnf)
          | ((with_reducible refine forceL_to (whole_of ?_) ?_); (· rw [hxl]; rfl); conv => whnf)
          | ((with_reducible refine forceL_to (store_all ?_) ?_); (· first | rw [hxl, hzl] | rfl); conv => whnf)
          | ((with_reducible apply optm_of); (· first | exact g1 | exact g2 | exact g3 | exact g4 | exact g5 | exact g6); conv => whnf)
          | fail)
        exact keepOf (v₀ := .a (.bool true)) [.cells [.int .i64 room, .slc 5 0 M.length cap1'] 57 false, .cells cs1 61 mk1, .cells [.int .i64 room, .slc 4 0 M.length cap2'] 47 false, .cells cs2 69 mk2, .cells cs2' 69 false, .cells cs1' 61 false] [0, 1, 2, 3, 5, 6] rfl ⟨rfl, ren_pl h1 _ _ _, rfl, ren_pl h2 _ _ _, ren_pl q2 _ _ _, ren_pl q1 _ _ _, trivial⟩ (by simp [nodupb, baseb, Ob.okb, frmOk, V.okb, A.okb, h1.2, h2.2, q1.2, q2.2] <;> decide) (hKd M M.length cap1' cap2' cs1' cs2' false rfl hMr ⟨y1', e1', c1'⟩ ⟨y2', e2', c2'⟩)
  ·
    conv => whnf
    repeat' (first
      | rw [← hz3]
      | rw [hrz]
      | rw [Nat.zero_mul Try.prog.types[69].size]
      | ((with_reducible refine regx_of ?_ ?_); (· decide +kernel); conv => whnf)
      | ((with_reducible refine growx_pre ?_ ?_); (· exact ⟨_, rfl⟩); conv => whnf)
      | ((with_reducible refine needm_of ?_ ?_); (· first | assumption | exact decide_eq_true (by omega) | exact mkOK_of (by decide) | decide +kernel | (refine decide_eq_true ?_; simp (disch := omega) only [i64w]; omega)); conv => whnf)
      | ((with_reducible refine condm_pos ?_ ?_); (· assumption); conv => whnf)
      | ((with_reducible refine condm_neg ?_ ?_); (· assumption); conv => whnf)
      | ((with_reducible refine forceL_fv (by assumption) ?_); conv => whnf)
      | ((with_reducible refine forceL_rfv (by assumption) ?_); conv => whnf)
      | ((with_reducible refine forceNm_of ?_); conv => whnf)
      | ((with_reducible refine needm_of (fv_lenL (by assumption) (by assumption)) ?_); conv => whnf)
      | ((with_reducible refine optm_var (fv_strL (by assumption) (by assumption)) (fun s hs => ?_)); conv => whnf)
      | ((with_reducible refine forceA_of ?_); conv => whnf)
      | ((with_reducible refine forceL_pl (by assumption) ?_); conv => whnf)
      | ((with_reducible refine forceL_rpl (by assumption) ?_); conv => whnf)
      | ((with_reducible refine needm_of ?_ ?_); (· first | (rw [hxl, hzl]; rfl) | (rw [hxl]; rfl)); conv => whnf)
      | ((with_reducible refine forceL_to (whole_of ?_) ?_); (· rw [hxl]; rfl); conv => whnf)
      | ((with_reducible refine forceL_to (store_all ?_) ?_); (· first | rw [hxl, hzl] | rfl); conv => whnf)
      | ((with_reducible apply optm_of); (· first | exact g1 | exact g2 | exact g3 | exact g4 | exact g5 | exact g6); conv => whnf)
      | fail)
    refine condm_of (fun k1 => ?_) (fun k1 => ?_)
    ·
      conv => whnf
      repeat' (first
        | rw [← hz3]
        | rw [hrz]
        | rw [Nat.zero_mul Try.prog.types[69].size]
        | ((with_reducible refine regx_of ?_ ?_); (· decide +kernel); conv => whnf)
        | ((with_reducible refine growx_pre ?_ ?_); (· exact ⟨_, rfl⟩); conv => whnf)
        | ((with_reducible refine needm_of ?_ ?_); (· first | assumption | exact decide_eq_true (by omega) | exact mkOK_of (by decide) | decide +kernel | (refine decide_eq_true ?_; simp (disch := omega) only [i64w]; omega)); conv => whnf)
        | ((with_reducible refine condm_pos ?_ ?_); (· assumption); conv => whnf)
        | ((with_reducible refine condm_neg ?_ ?_); (· assumption); conv => whnf)
        | ((with_reducible refine forceL_fv (by assumption) ?_); conv => whnf)
        | ((with_reducible refine forceL_rfv (by assumption) ?_); conv => whnf)
        | ((with_reducible refine forceNm_of ?_); conv => whnf)
        | ((with_reducible refine needm_of (fv_lenL (by assumption) (by assumption)) ?_); conv => whnf)
        | ((with_reducible refine optm_var (fv_strL (by assumption) (by assumption)) (fun s hs => ?_)); conv => whnf)
        | ((with_reducible refine forceA_of ?_); conv => whnf)
        | ((with_reducible refine forceL_pl (by assumption) ?_); conv => whnf)
        | ((with_reducible refine forceL_rpl (by assumption) ?_); conv => whnf)
        | ((with_reducible refine needm_of ?_ ?_); (· first | (rw [hxl, hzl]; rfl) | (rw [hxl]; rfl)); conv => whnf)
        | ((with_reducible refine forceL_to (whole_of ?_) ?_); (· rw [hxl]; rfl); conv => whnf)
        | ((with_reducible refine forceL_to (store_all ?_) ?_); (· first | rw [hxl, hzl] | rfl); conv => whnf)
        | ((with_reducible apply optm_of); (· first | exact g1 | exact g2 | exact g3 | exact g4 | exact g5 | exact g6); conv => whnf)
        | fail)
      refine Go.Eng.Fn.frame [2, 3] (by rfl) (by exact ⟨rfl, ren_pl h2 _ _ _, trivial⟩) (by simp [nodupb, V.okb, A.okb, Ob.okb, h2.2] <;> decide) (look29 room i L.length cap2 cs2 (L ++ y2) e2 (by rw [List.length_append]; omega) mk2 (fun h xr hxr => ?_) (fun x hx h xr hxr => ?_))
      · skip
        have hxp : Pl xr := by rw [hxr]; exact ⟨fun _ => rfl, fun _ => rfl⟩
        have hxl : xr.length = 3 := by rw [hxr]; rfl
        conv => whnf
        repeat' (first
          | rw [← hz3]
          | rw [hrz]
          | rw [Nat.zero_mul Try.prog.types[69].size]
          | ((with_reducible refine regx_of ?_ ?_); (· decide +kernel); conv => whnf)
          | ((with_reducible refine growx_pre ?_ ?_); (· exact ⟨_, rfl⟩); conv => whnf)
          | ((with_reducible refine needm_of ?_ ?_); (· first | assumption | exact decide_eq_true (by omega) | exact mkOK_of (by decide) | decide +kernel | (refine decide_eq_true ?_; simp (disch := omega) only [i64w]; omega)); conv => whnf)
          | ((with_reducible refine condm_pos ?_ ?_); (· assumption); conv => whnf)
          | ((with_reducible refine condm_neg ?_ ?_); (· assumption); conv => whnf)
          | ((with_reducible refine forceL_fv (by assumption) ?_); conv => whnf)
          | ((with_reducible refine forceL_rfv (by assumption) ?_); conv => whnf)
          | ((with_reducible refine forceNm_of ?_); conv => whnf)
          | ((with_reducible refine needm_of (fv_lenL (by assumption) (by assumption)) ?_); conv => whnf)
          | ((with_reducible refine optm_var (fv_strL (by assumption) (by assumption)) (fun s hs => ?_)); conv => whnf)
          | ((with_reducible refine forceA_of ?_); conv => whnf)
          | ((with_reducible refine forceL_pl (by assumption) ?_); conv => whnf)
          | ((with_reducible refine forceL_rpl (by assumption) ?_); conv => whnf)
          | ((with_reducible refine needm_of ?_ ?_); (· first | (rw [hxl, hzl]; rfl) | (rw [hxl]; rfl)); conv => whnf)
          | ((with_reducible refine forceL_to (whole_of ?_) ?_); (· rw [hxl]; rfl); conv => whnf)
          | ((with_reducible refine forceL_to (store_all ?_) ?_); (· first | rw [hxl, hzl] | rfl); conv => whnf)
          | ((with_reducible apply optm_of); (· first | exact g1 | exact g2 | exact g3 | exact g4 | exact g5 | exact g6); conv => whnf)
          | fail)
        refine Go.Eng.Fn.frame [0, 1] (by rfl) (by exact ⟨rfl, ren_pl h1 _ _ _, trivial⟩) (by simp [nodupb, V.okb, A.okb, Ob.okb, h1.2] <;> decide) (look15 room i L.length cap1 cs1 (L ++ y1) e1 (by rw [List.length_append]; omega) mk1 (fun _ => ?_) (fun x hx h' => absurd h' h))
        conv => whnf
        repeat' (first
          | rw [← hz3]
          | rw [hrz]
          | rw [Nat.zero_mul Try.prog.types[69].size]
          | ((with_reducible refine regx_of ?_ ?_); (· decide +kernel); conv => whnf)
          | ((with_reducible refine growx_pre ?_ ?_); (· exact ⟨_, rfl⟩); conv => whnf)
          | ((with_reducible refine needm_of ?_ ?_); (· first | assumption | exact decide_eq_true (by omega) | exact mkOK_of (by decide) | decide +kernel | (refine decide_eq_true ?_; simp (disch := omega) only [i64w]; omega)); conv => whnf)
          | ((with_reducible refine condm_pos ?_ ?_); (· assumption); conv => whnf)
          | ((with_reducible refine condm_neg ?_ ?_); (· assumption); conv => whnf)
          | ((with_reducible refine forceL_fv (by assumption) ?_); conv => whnf)
          | ((with_reducible refine forceL_rfv (by assumption) ?_); conv => whnf)
          | ((with_reducible refine forceNm_of ?_); conv => whnf)
          | ((with_reducible refine needm_of (fv_lenL (by assumption) (by assumption)) ?_); conv => whnf)
          | ((with_reducible refine optm_var (fv_strL (by assumption) (by assumption)) (fun s hs => ?_)); conv => whnf)
          | ((with_reducible refine forceA_of ?_); conv => whnf)
          | ((with_reducible refine forceL_pl (by assumption) ?_); conv => whnf)
          | ((with_reducible refine forceL_rpl (by assumption) ?_); conv => whnf)
          | ((with_reducible refine needm_of ?_ ?_); (· first | (rw [hxl, hzl]; rfl) | (rw [hxl]; rfl)); conv => whnf)
          | ((with_reducible refine forceL_to (whole_of ?_) ?_); (· rw [hxl]; rfl); conv => whnf)
          | ((with_reducible refine forceL_to (store_all ?_) ?_); (· first | rw [hxl, hzl] | rfl); conv => whnf)
          | ((with_reducible apply optm_of); (· first | exact g1 | exact g2 | exact g3 | exact g4 | exact g5 | exact g6); conv => whnf)
          | fail)
        refine Go.Eng.Fn.frame [] (by show [_, _, _, _, V.g (xr.map (A.ren _)), _] = _; rw [hxp.1]; rfl) (by exact trivial) (by simp [nodupb, V.okb, A.okb, hxp.2] <;> decide) (told30 z0 xr hxr 220 ?_)
        conv => whnf
        repeat' (first
          | rw [← hz3]
          | rw [hrz]
          | rw [Nat.zero_mul Try.prog.types[69].size]
          | ((with_reducible refine regx_of ?_ ?_); (· decide +kernel); conv => whnf)
          | ((with_reducible refine growx_pre ?_ ?_); (· exact ⟨_, rfl⟩); conv => whnf)
          | ((with_reducible refine needm_of ?_ ?_); (· first | assumption | exact decide_eq_true (by omega) | exact mkOK_of (by decide) | decide +kernel | (refine decide_eq_true ?_; simp (disch := omega) only [i64w]; omega)); conv => whnf)
          | ((with_reducible refine condm_pos ?_ ?_); (· assumption); conv => whnf)
          | ((with_reducible refine condm_neg ?_ ?_); (· assumption); conv => whnf)
          | ((with_reducible refine forceL_fv (by assumption) ?_); conv => whnf)
          | ((with_reducible refine forceL_rfv (by assumption) ?_); conv => whnf)
          | ((with_reducible refine forceNm_of ?_); conv => whnf)
          | ((with_reducible refine needm_of (fv_lenL (by assumption) (by assumption)) ?_); conv => whnf)
          | ((with_reducible refine optm_var (fv_strL (by assumption) (by assumption)) (fun s hs => ?_)); conv => whnf)
          | ((with_reducible refine forceA_of ?_); conv => whnf)
          | ((with_reducible refine forceL_pl (by assumption) ?_); conv => whnf)
          | ((with_reducible refine forceL_rpl (by assumption) ?_); conv => whnf)
          | ((with_reducible refine needm_of ?_ ?_); (· first | (rw [hxl, hzl]; rfl) | (rw [hxl]; rfl)); conv => whnf)
          | ((with_reducible refine forceL_to (whole_of ?_) ?_); (· rw [hxl]; rfl); conv => whnf)
          | ((with_reducible refine forceL_to (store_all ?_) ?_); (· first | rw [hxl, hzl] | rfl); conv => whnf)
          | ((with_reducible apply optm_of); (· first | exact g1 | exact g2 | exact g3 | exact g4 | exact g5 | exact g6); conv => whnf)
          | fail)
        exact keepOf (v₀ := .a (.bool true)) [.cells [.int .i64 room, .slc 1 0 L.length cap1] 57 false, .cells cs1 61 mk1, .cells [.int .i64 room, .slc 3 0 L.length cap2] 47 false, .cells cs2 69 mk2] [0, 1, 2, 3] rfl ⟨rfl, ren_pl h1 _ _ _, rfl, ren_pl h2 _ _ _, trivial⟩ (by simp [nodupb, baseb, Ob.okb, frmOk, V.okb, A.okb, h1.2, h2.2] <;> decide) (hKa L L.length cap1 cap2 cs1 cs2 rfl hr ⟨y1, e1, c1⟩ ⟨y2, e2, c2⟩)
      · skip
        have hxp : Pl xr := by rw [hxr]; exact ⟨fun _ => rfl, fun _ => rfl⟩
        have hxl : xr.length = 3 := by rw [hxr]; rfl
        conv => whnf
        repeat' (first
          | rw [← hz3]
          | rw [hrz]
          | rw [Nat.zero_mul Try.prog.types[69].size]
          | ((with_reducible refine regx_of ?_ ?_); (· decide +kernel); conv => whnf)
          | ((with_reducible refine growx_pre ?_ ?_); (· exact ⟨_, rfl⟩); conv => whnf)
          | ((with_reducible refine needm_of ?_ ?_); (· first | assumption | exact decide_eq_true (by omega) | exact mkOK_of (by decide) | decide +kernel | (refine decide_eq_true ?_; simp (disch := omega) only [i64w]; omega)); conv => whnf)
          | ((with_reducible refine condm_pos ?_ ?_); (· assumption); conv => whnf)
          | ((with_reducible refine condm_neg ?_ ?_); (· assumption); conv => whnf)
          | ((with_reducible refine forceL_fv (by assumption) ?_); conv => whnf)
          | ((with_reducible refine forceL_rfv (by assumption) ?_); conv => whnf)
          | ((with_reducible refine forceNm_of ?_); conv => whnf)
          | ((with_reducible refine needm_of (fv_lenL (by assumption) (by assumption)) ?_); conv => whnf)
          | ((with_reducible refine optm_var (fv_strL (by assumption) (by assumption)) (fun s hs => ?_)); conv => whnf)
          | ((with_reducible refine forceA_of ?_); conv => whnf)
          | ((with_reducible refine forceL_pl (by assumption) ?_); conv => whnf)
          | ((with_reducible refine forceL_rpl (by assumption) ?_); conv => whnf)
          | ((with_reducible refine needm_of ?_ ?_); (· first | (rw [hxl, hzl]; rfl) | (rw [hxl]; rfl)); conv => whnf)
          | ((with_reducible refine forceL_to (whole_of ?_) ?_); (· rw [hxl]; rfl); conv => whnf)
          | ((with_reducible refine forceL_to (store_all ?_) ?_); (· first | rw [hxl, hzl] | rfl); conv => whnf)
          | ((with_reducible apply optm_of); (· first | exact g1 | exact g2 | exact g3 | exact g4 | exact g5 | exact g6); conv => whnf)
          | fail)
        refine Go.Eng.Fn.frame [0, 1] (by rfl) (by exact ⟨rfl, ren_pl h1 _ _ _, trivial⟩) (by simp [nodupb, V.okb, A.okb, Ob.okb, h1.2] <;> decide) (look15 room i L.length cap1 cs1 (L ++ y1) e1 (by rw [List.length_append]; omega) mk1 (fun h' => absurd h h') (fun x' hx' _ => ?_))
        obtain rfl : x = x' := by
          rw [List.getElem?_append_left (by omega)] at hx hx'
          rw [hx] at hx'; injection hx'
        conv => whnf
        repeat' (first
          | rw [← hz3]
          | rw [hrz]
          | rw [Nat.zero_mul Try.prog.types[69].size]
          | ((with_reducible refine regx_of ?_ ?_); (· decide +kernel); conv => whnf)
          | ((with_reducible refine growx_pre ?_ ?_); (· exact ⟨_, rfl⟩); conv => whnf)
          | ((with_reducible refine needm_of ?_ ?_); (· first | assumption | exact decide_eq_true (by omega) | exact mkOK_of (by decide) | decide +kernel | (refine decide_eq_true ?_; simp (disch := omega) only [i64w]; omega)); conv => whnf)
          | ((with_reducible refine condm_pos ?_ ?_); (· assumption); conv => whnf)
          | ((with_reducible refine condm_neg ?_ ?_); (· assumption); conv => whnf)
          | ((with_reducible refine forceL_fv (by assumption) ?_); conv => whnf)
          | ((with_reducible refine forceL_rfv (by assumption) ?_); conv => whnf)
          | ((with_reducible refine forceNm_of ?_); conv => whnf)
          | ((with_reducible refine needm_of (fv_lenL (by assumption) (by assumption)) ?_); conv => whnf)
          | ((with_reducible refine optm_var (fv_strL (by assumption) (by assumption)) (fun s hs => ?_)); conv => whnf)
          | ((with_reducible refine forceA_of ?_); conv => whnf)
          | ((with_reducible refine forceL_pl (by assumption) ?_); conv => whnf)
          | ((with_reducible refine forceL_rpl (by assumption) ?_); conv => whnf)
          | ((with_reducible refine needm_of ?_ ?_); (· first | (rw [hxl, hzl]; rfl) | (rw [hxl]; rfl)); conv => whnf)
          | ((with_reducible refine forceL_to (whole_of ?_) ?_); (· rw [hxl]; rfl); conv => whnf)
          | ((with_reducible refine forceL_to (store_all ?_) ?_); (· first | rw [hxl, hzl] | rfl); conv => whnf)
          | ((with_reducible apply optm_of); (· first | exact g1 | exact g2 | exact g3 | exact g4 | exact g5 | exact g6); conv => whnf)
          | fail)
        refine Go.Eng.Fn.frame [] (by show [_, _, _, _, V.g (xr.map (A.ren _)), _] = _; rw [hxp.1]; rfl) (by exact trivial) (by simp [nodupb, V.okb, A.okb, hxp.2] <;> decide) (told30 x xr hxr 0 ?_)
        conv => whnf
        repeat' (first
          | rw [← hz3]
          | rw [hrz]
          | rw [Nat.zero_mul Try.prog.types[69].size]
          | ((with_reducible refine regx_of ?_ ?_); (· decide +kernel); conv => whnf)
          | ((with_reducible refine growx_pre ?_ ?_); (· exact ⟨_, rfl⟩); conv => whnf)
          | ((with_reducible refine needm_of ?_ ?_); (· first | assumption | exact decide_eq_true (by omega) | exact mkOK_of (by decide) | decide +kernel | (refine decide_eq_true ?_; simp (disch := omega) only [i64w]; omega)); conv => whnf)
          | ((with_reducible refine condm_pos ?_ ?_); (· assumption); conv => whnf)
          | ((with_reducible refine condm_neg ?_ ?_); (· assumption); conv => whnf)
          | ((with_reducible refine forceL_fv (by assumption) ?_); conv => whnf)
          | ((with_reducible refine forceL_rfv (by assumption) ?_); conv => whnf)
          | ((with_reducible refine forceNm_of ?_); conv => whnf)
          | ((with_reducible refine needm_of (fv_lenL (by assumption) (by assumption)) ?_); conv => whnf)
          | ((with_reducible refine optm_var (fv_strL (by assumption) (by assumption)) (fun s hs => ?_)); conv => whnf)
          | ((with_reducible refine forceA_of ?_); conv => whnf)
          | ((with_reducible refine forceL_pl (by assumption) ?_); conv => whnf)
          | ((with_reducible refine forceL_rpl (by assumption) ?_); conv => whnf)
          | ((with_reducible refine needm_of ?_ ?_); (· first | (rw [hxl, hzl]; rfl) | (rw [hxl]; rfl)); conv => whnf)
          | ((with_reducible refine forceL_to (whole_of ?_) ?_); (· rw [hxl]; rfl); conv => whnf)
          | ((with_reducible refine forceL_to (store_all ?_) ?_); (· first | rw [hxl, hzl] | rfl); conv => whnf)
          | ((with_reducible apply optm_of); (· first | exact g1 | exact g2 | exact g3 | exact g4 | exact g5 | exact g6); conv => whnf)
          | fail)
        exact keepOf (v₀ := .a (.bool true)) [.cells [.int .i64 room, .slc 1 0 L.length cap1] 57 false, .cells cs1 61 mk1, .cells [.int .i64 room, .slc 3 0 L.length cap2] 47 false, .cells cs2 69 mk2] [0, 1, 2, 3] rfl ⟨rfl, ren_pl h1 _ _ _, rfl, ren_pl h2 _ _ _, trivial⟩ (by simp [nodupb, baseb, Ob.okb, frmOk, V.okb, A.okb, h1.2, h2.2] <;> decide) (hKa L L.length cap1 cap2 cs1 cs2 rfl hr ⟨y1, e1, c1⟩ ⟨y2, e2, c2⟩)
    ·
      conv => whnf
      repeat' (first
        | rw [← hz3]
        | rw [hrz]
        | rw [Nat.zero_mul Try.prog.types[69].size]
        | ((with_reducible refine regx_of ?_ ?_); (· decide +kernel); conv => whnf)
        | ((with_reducible refine growx_pre ?_ ?_); (· exact ⟨_, rfl⟩); conv => whnf)
        | ((with_reducible refine needm_of ?_ ?_); (· first | assumption | exact decide_eq_true (by omega) | exact mkOK_of (by decide) | decide +kernel | (refine decide_eq_true ?_; simp (disch := omega) only [i64w]; omega)); conv => whnf)
        | ((with_reducible refine condm_pos ?_ ?_); (· assumption); conv => whnf)
        | ((with_reducible refine condm_neg ?_ ?_); (· assumption); conv => whnf)
        | ((with_reducible refine forceL_fv (by assumption) ?_); conv => whnf)
        | ((with_reducible refine forceL_rfv (by assumption) ?_); conv => whnf)
        | ((with_reducible refine forceNm_of ?_); conv => whnf)
        | ((with_reducible refine needm_of (fv_lenL (by assumption) (by assumption)) ?_); conv => whnf)
        | ((with_reducible refine optm_var (fv_strL (by assumption) (by assumption)) (fun s hs => ?_)); conv => whnf)
        | ((with_reducible refine forceA_of ?_); conv => whnf)
        | ((with_reducible refine forceL_pl (by assumption) ?_); conv => whnf)
        | ((with_reducible refine forceL_rpl (by assumption) ?_); conv => whnf)
        | ((with_reducible refine needm_of ?_ ?_); (· first | (rw [hxl, hzl]; rfl) | (rw [hxl]; rfl)); conv => whnf)
        | ((with_reducible refine forceL_to (whole_of ?_) ?_); (· rw [hxl]; rfl); conv => whnf)
        | ((with_reducible refine forceL_to (store_all ?_) ?_); (· first | rw [hxl, hzl] | rfl); conv => whnf)
        | ((with_reducible apply optm_of); (· first | exact g1 | exact g2 | exact g3 | exact g4 | exact g5 | exact g6); conv => whnf)
        | fail)
      refine condm_of (fun k2 => ?_) (fun k2 => ?_)
      ·
        conv => whnf
        repeat' (first
          | rw [← hz3]
          | rw [hrz]
          | rw [Nat.zero_mul Try.prog.types[69].size]
          | ((with_reducible refine regx_of ?_ ?_); (· decide +kernel); conv => whnf)
          | ((with_reducible refine growx_pre ?_ ?_); (· exact ⟨_, rfl⟩); conv => whnf)
          | ((with_reducible refine needm_of ?_ ?_); (· first | assumption | exact decide_eq_true (by omega) | exact mkOK_of (by decide) | decide +kernel | (refine decide_eq_true ?_; simp (disch := omega) only [i64w]; omega)); conv => whnf)
          | ((with_reducible refine condm_pos ?_ ?_); (· assumption); conv => whnf)
          | ((with_reducible refine condm_neg ?_ ?_); (· assumption); conv => whnf)
          | ((with_reducible refine forceL_fv (by assumption) ?_); conv => whnf)
          | ((with_reducible refine forceL_rfv (by assumption) ?_); conv => whnf)
          | ((with_reducible refine forceNm_of ?_); conv => whnf)
          | ((with_reducible refine needm_of (fv_lenL (by assumption) (by assumption)) ?_); conv => whnf)
          | ((with_reducible refine optm_var (fv_strL (by assumption) (by assumption)) (fun s hs => ?_)); conv => whnf)
          | ((with_reducible refine forceA_of ?_); conv => whnf)
          | ((with_reducible refine forceL_pl (by assumption) ?_); conv => whnf)
          | ((with_reducible refine forceL_rpl (by assumption) ?_); conv => whnf)
          | ((with_reducible refine needm_of ?_ ?_); (· first | (rw [hxl, hzl]; rfl) | (rw [hxl]; rfl)); conv => whnf)
          | ((with_reducible refine forceL_to (whole_of ?_) ?_); (· rw [hxl]; rfl); conv => whnf)
          | ((with_reducible refine forceL_to (store_all ?_) ?_); (· first | rw [hxl, hzl] | rfl); conv => whnf)
          | ((with_reducible apply optm_of); (· first | exact g1 | exact g2 | exact g3 | exact g4 | exact g5 | exact g6); conv => whnf)
          | fail)
        refine Go.Eng.Fn.frame [2, 3] (by rfl) (by exact ⟨rfl, ren_pl h2 _ _ _, trivial⟩) (by simp [nodupb, V.okb, A.okb, Ob.okb, h2.2] <;> decide) (deliver31 room i L y2 cs2 cap2 mk2 e2 c2 hL (fun h xr hxr => ?_) (fun x hx h xr hxr y2' cs2' cap2' mk' e2' c2' => ?_))
        · skip
          have hxp : Pl xr := by rw [hxr]; exact ⟨fun _ => rfl, fun _ => rfl⟩
          have hxl : xr.length = 3 := by rw [hxr]; rfl
          conv => whnf
          repeat' (first
            | rw [← hz3]
            | rw [hrz]
            | rw [Nat.zero_mul Try.prog.types[69].size]
            | ((with_reducible refine regx_of ?_ ?_); (· decide +kernel); conv => whnf)
            | ((with_reducible refine growx_pre ?_ ?_); (· exact ⟨_, rfl⟩); conv => whnf)
            | ((with_reducible refine needm_of ?_ ?_); (· first | assumption | exact decide_eq_true (by omega) | exact mkOK_of (by decide) | decide +kernel | (refine decide_eq_true ?_; simp (disch := omega) only [i64w]; omega)); conv => whnf)
            | ((with_reducible refine condm_pos ?_ ?_); (· assumption); conv => whnf)
            | ((with_reducible refine condm_neg ?_ ?_); (· assumption); conv => whnf)
            | ((with_reducible refine forceL_fv (by assumption) ?_); conv => whnf)
            | ((with_reducible refine forceL_rfv (by assumption) ?_); conv => whnf)
            | ((with_reducible refine forceNm_of ?_); conv => whnf)
            | ((with_reducible refine needm_of (fv_lenL (by assumption) (by assumption)) ?_); conv => whnf)
            | ((with_reducible refine optm_var (fv_strL (by assumption) (by assumption)) (fun s hs => ?_)); conv => whnf)
            | ((with_reducible refine forceA_of ?_); conv => whnf)
            | ((with_reducible refine forceL_pl (by assumption) ?_); conv => whnf)
            | ((with_reducible refine forceL_rpl (by assumption) ?_); conv => whnf)
            | ((with_reducible refine needm_of ?_ ?_); (· first | (rw [hxl, hzl]; rfl) | (rw [hxl]; rfl)); conv => whnf)
            | ((with_reducible refine forceL_to (whole_of ?_) ?_); (· rw [hxl]; rfl); conv => whnf)
            | ((with_reducible refine forceL_to (store_all ?_) ?_); (· first | rw [hxl, hzl] | rfl); conv => whnf)
            | ((with_reducible apply optm_of); (· first | exact g1 | exact g2 | exact g3 | exact g4 | exact g5 | exact g6); conv => whnf)
            | fail)
          refine Go.Eng.Fn.frame [0, 1] (by rfl) (by exact ⟨rfl, ren_pl h1 _ _ _, trivial⟩) (by simp [nodupb, V.okb, A.okb, Ob.okb, h1.2] <;> decide) (deliver11 room i L y1 cs1 cap1 mk1 e1 c1 hL (fun _ => ?_) (fun x hx h' y1' cs1' e1' c1' => absurd h' h))
          conv => whnf
          repeat' (first
            | rw [← hz3]
            | rw [hrz]
            | rw [Nat.zero_mul Try.prog.types[69].size]
            | ((with_reducible refine regx_of ?_ ?_); (· decide +kernel); conv => whnf)
            | ((with_reducible refine growx_pre ?_ ?_); (· exact ⟨_, rfl⟩); conv => whnf)
            | ((with_reducible refine needm_of ?_ ?_); (· first | assumption | exact decide_eq_true (by omega) | exact mkOK_of (by decide) | decide +kernel | (refine decide_eq_true ?_; simp (disch := omega) only [i64w]; omega)); conv => whnf)
            | ((with_reducible refine condm_pos ?_ ?_); (· assumption); conv => whnf)
            | ((with_reducible refine condm_neg ?_ ?_); (· assumption); conv => whnf)
            | ((with_reducible refine forceL_fv (by assumption) ?_); conv => whnf)
            | ((with_reducible refine forceL_rfv (by assumption) ?_); conv => whnf)
            | ((with_reducible refine forceNm_of ?_); conv => whnf)
            | ((with_reducible refine needm_of (fv_lenL (by assumption) (by assumption)) ?_); conv => whnf)
            | ((with_reducible refine optm_var (fv_strL (by assumption) (by assumption)) (fun s hs => ?_)); conv => whnf)
            | ((with_reducible refine forceA_of ?_); conv => whnf)
            | ((with_reducible refine forceL_pl (by assumption) ?_); conv => whnf)
            | ((with_reducible refine forceL_rpl (by assumption) ?_); conv => whnf)
            | ((with_reducible refine needm_of ?_ ?_); (· first | (rw [hxl, hzl]; rfl) | (rw [hxl]; rfl)); conv => whnf)
            | ((with_reducible refine forceL_to (whole_of ?_) ?_); (· rw [hxl]; rfl); conv => whnf)
            | ((with_reducible refine forceL_to (store_all ?_) ?_); (· first | rw [hxl, hzl] | rfl); conv => whnf)
            | ((with_reducible apply optm_of); (· first | exact g1 | exact g2 | exact g3 | exact g4 | exact g5 | exact g6); conv => whnf)
            | fail)
          refine Go.Eng.Fn.frame [] (by show [_, _, _, _, V.g (xr.map (A.ren _)), _] = _; rw [hxp.1]; rfl) (by exact trivial) (by simp [nodupb, V.okb, A.okb, hxp.2] <;> decide) (told30 z0 xr hxr 220 ?_)
          conv => whnf
          repeat' (first
            | rw [← hz3]
            | rw [hrz]
            | rw [Nat.zero_mul Try.prog.types[69].size]
            | ((with_reducible refine regx_of ?_ ?_); (· decide +kernel); conv => whnf)
            | ((with_reducible refine growx_pre ?_ ?_); (· exact ⟨_, rfl⟩); conv => whnf)
            | ((with_reducible refine needm_of ?_ ?_); (· first | assumption | exact decide_eq_true (by omega) | exact mkOK_of (by decide) | decide +kernel | (refine decide_eq_true ?_; simp (disch := omega) only [i64w]; omega)); conv => whnf)
            | ((with_reducible refine condm_pos ?_ ?_); (· assumption); conv => whnf)
            | ((with_reducible refine condm_neg ?_ ?_); (· assumption); conv => whnf)
            | ((with_reducible refine forceL_fv (by assumption) ?_); conv => whnf)
            | ((with_reducible refine forceL_rfv (by assumption) ?_); conv => whnf)
            | ((with_reducible refine forceNm_of ?_); conv => whnf)
            | ((with_reducible refine needm_of (fv_lenL (by assumption) (by assumption)) ?_); conv => whnf)
            | ((with_reducible refine optm_var (fv_strL (by assumption) (by assumption)) (fun s hs => ?_)); conv => whnf)
            | ((with_reducible refine forceA_of ?_); conv => whnf)
            | ((with_reducible refine forceL_pl (by assumption) ?_); conv => whnf)
            | ((with_reducible refine forceL_rpl (by assumption) ?_); conv => whnf)
            | ((with_reducible refine needm_of ?_ ?_); (· first | (rw [hxl, hzl]; rfl) | (rw [hxl]; rfl)); conv => whnf)
            | ((with_reducible refine forceL_to (whole_of ?_) ?_); (· rw [hxl]; rfl); conv => whnf)
            | ((with_reducible refine forceL_to (store_all ?_) ?_); (· first | rw [hxl, hzl] | rfl); conv => whnf)
            | ((with_reducible apply optm_of); (· first | exact g1 | exact g2 | exact g3 | exact g4 | exact g5 | exact g6); conv => whnf)
            | fail)
          exact keepOf (v₀ := .a (.bool true)) [.cells [.int .i64 room, .slc 1 0 L.length cap1] 57 false, .cells cs1 61 mk1, .cells [.int .i64 room, .slc 3 0 L.length cap2] 47 false, .cells cs2 69 mk2] [0, 1, 2, 3] rfl ⟨rfl, ren_pl h1 _ _ _, rfl, ren_pl h2 _ _ _, trivial⟩ (by simp [nodupb, baseb, Ob.okb, frmOk, V.okb, A.okb, h1.2, h2.2] <;> decide) (hKa L L.length cap1 cap2 cs1 cs2 rfl hr ⟨y1, e1, c1⟩ ⟨y2, e2, c2⟩)
        · skip
          obtain ⟨M, hM⟩ : ∃ M, M = L.eraseIdx i.toNat := ⟨_, rfl⟩
          rw [← hM] at e2' c2' ⊢
          have hMr : M.length ≤ room := by
            have : M.length ≤ L.length := by rw [hM, List.length_eraseIdx]; split <;> omega
            omega
          have q2 := Pl.fls e2'
          have hxp : Pl xr := by rw [hxr]; exact ⟨fun _ => rfl, fun _ => rfl⟩
          have hxl : xr.length = 3 := by rw [hxr]; rfl
          conv => whnf
          repeat' (first
            | rw [← hz3]
            | rw [hrz]
            | rw [Nat.zero_mul Try.prog.types[69].size]
            | ((with_reducible refine regx_of ?_ ?_); (· decide +kernel); conv => whnf)
            | ((with_reducible refine growx_pre ?_ ?_); (· exact ⟨_, rfl⟩); conv => whnf)
            | ((with_reducible refine needm_of ?_ ?_); (· first | assumption | exact decide_eq_true (by omega) | exact mkOK_of (by decide) | decide +kernel | (refine decide_eq_true ?_; simp (disch := omega) only [i64w]; omega)); conv => whnf)
            | ((with_reducible refine condm_pos ?_ ?_); (· assumption); conv => whnf)
            | ((with_reducible refine condm_neg ?_ ?_); (· assumption); conv => whnf)
            | ((with_reducible refine forceL_fv (by assumption) ?_); conv => whnf)
            | ((with_reducible refine forceL_rfv (by assumption) ?_); conv => whnf)
            | ((with_reducible refine forceNm_of ?_); conv => whnf)
            | ((with_reducible refine needm_of (fv_lenL (by assumption) (by assumption)) ?_); conv => whnf)
            | ((with_reducible refine optm_var (fv_strL (by assumption) (by assumption)) (fun s hs => ?_)); conv => whnf)
            | ((with_reducible refine forceA_of ?_); conv => whnf)
            | ((with_reducible refine forceL_pl (by assumption) ?_); conv => whnf)
            | ((with_reducible refine forceL_rpl (by assumption) ?_); conv => whnf)
            | ((with_reducible refine needm_of ?_ ?_); (· first | (rw [hxl, hzl]; rfl) | (rw [hxl]; rfl)); conv => whnf)
            | ((with_reducible refine forceL_to (whole_of ?_) ?_); (· rw [hxl]; rfl); conv => whnf)
            | ((with_reducible refine forceL_to (store_all ?_) ?_); (· first | rw [hxl, hzl] | rfl); conv => whnf)
            | ((with_reducible apply optm_of); (· first | exact g1 | exact g2 | exact g3 | exact g4 | exact g5 | exact g6); conv => whnf)
            | fail)
          refine Go.Eng.Fn.frame [0, 1] (by rfl) (by exact ⟨rfl, ren_pl h1 _ _ _, trivial⟩) (by simp [nodupb, V.okb, A.okb, Ob.okb, h1.2] <;> decide) (deliver11 room i L y1 cs1 cap1 mk1 e1 c1 hL (fun h' => absurd h h') (fun x' hx' _ y1' cs1' e1' c1' => ?_))
          obtain rfl : x = x' := by
            rw [hx] at hx'; injection hx'
          rw [← hM] at e1' c1' ⊢
          have q1 := Pl.fls e1'
          conv => whnf
          repeat' (first
            | rw [← hz3]
            | rw [hrz]
            | rw [Nat.zero_mul Try.prog.types[69].size]
            | ((with_reducible refine regx_of ?_ ?_); (· decide +kernel); conv => whnf)
            | ((with_reducible refine growx_pre ?_ ?_); (· exact ⟨_, rfl⟩); conv => whnf)
            | ((with_reducible refine needm_of ?_ ?_); (· first | assumption | exact decide_eq_true (by omega) | exact mkOK_of (by decide) | decide +kernel | (refine decide_eq_true ?_; simp (disch := omega) only [i64w]; omega)); conv => whnf)
            | ((with_reducible refine condm_pos ?_ ?_); (· assumption); conv => whnf)
            | ((with_reducible refine condm_neg ?_ ?_); (· assumption); conv => whnf)
            | ((with_reducible refine forceL_fv (by assumption) ?_); conv => whnf)
            | ((with_reducible refine forceL_rfv (by assumption) ?_); conv => whnf)
            | ((with_reducible refine forceNm_of ?_); conv => whnf)
            | ((with_reducible refine needm_of (fv_lenL (by assumption) (by assumption)) ?_); conv => whnf)
            | ((with_reducible refine optm_var (fv_strL (by assumption) (by assumption)) (fun s hs => ?_)); conv => whnf)
            | ((with_reducible refine forceA_of ?_); conv => whnf)
            | ((with_reducible refine forceL_pl (by assumption) ?_); conv => whnf)
            | ((with_reducible refine forceL_rpl (by assumption) ?_); conv => whnf)
            | ((with_reducible refine needm_of ?_ ?_); (· first | (rw [hxl, hzl]; rfl) | (rw [hxl]; rfl)); conv => whnf)
            | ((with_reducible refine forceL_to (whole_of ?_) ?_); (· rw [hxl]; rfl); conv => whnf)
            | ((with_reducible refine forceL_to (store_all ?_) ?_); (· first | rw [hxl, hzl] | rfl); conv => whnf)
            | ((with_reducible apply optm_of); (· first | exact g1 | exact g2 | exact g3 | exact g4 | exact g5 | exact g6); conv => whnf)
            | fail)
          refine Go.Eng.Fn.frame [] (by show [_, _, _, _, V.g (xr.map (A.ren _)), _] = _; rw [hxp.1]; rfl) (by exact trivial) (by simp [nodupb, V.okb, A.okb, hxp.2] <;> decide) (told30 x xr hxr 0 ?_)
          conv => whnf
          repeat' (first
            | rw [← hz3]
            | rw [hrz]
            | rw [Nat.zero_mul Try.prog.types[69].size]
            | ((with_reducible refine regx_of ?_ ?_); (· decide +kernel); conv => whnf)
            | ((with_reducible refine growx_pre ?_ ?_); (· exact ⟨_, rfl⟩); conv => whnf)
            | ((with_reducible refine needm_of ?_ ?_); (· first | assumption | exact decide_eq_true (by omega) | exact mkOK_of (by decide) | decide +kernel | (refine decide_eq_true ?_; simp (disch := omega) only [i64w]; omega)); conv => whnf)
            | ((with_reducible refine condm_pos ?_ ?_); (· assumption); conv => whnf)
            | ((with_reducible refine condm_neg ?_ ?_); (· assumption); conv => whnf)
            | ((with_reducible refine forceL_fv (by assumption) ?_); conv => whnf)
            | ((with_reducible refine forceL_rfv (by assumption) ?_); conv => whnf)
            | ((with_reducible refine forceNm_of ?_); conv => whnf)
            | ((with_reducible refine needm_of (fv_lenL (by assumption) (by assumption)) ?_); conv => whnf)
            | ((with_reducible refine optm_var (fv_strL (by assumption) (by assumption)) (fun s hs => ?_)); conv => whnf)
            | ((with_reducible refine forceA_of ?_); conv => whnf)
            | ((with_reducible refine forceL_pl (by assumption) ?_); conv => whnf)
            | ((with_reducible refine forceL_rpl (by assumption) ?_); conv => whnf)
            | ((with_reducible refine needm_of ?_ ?_); (· first | (rw [hxl, hzl]; rfl) | (rw [hxl]; rfl)); conv => whnf)
            | ((with_reducible refine forceL_to (whole_of ?_) ?_); (· rw [hxl]; rfl); conv => whnf)
            | ((with_reducible refine forceL_to (store_all ?_) ?_); (· first | rw [hxl, hzl] | rfl); conv => whnf)
            | ((with_reducible apply optm_of); (· first | exact g1 | exact g2 | exact g3 | exact g4 | exact g5 | exact g6); conv => whnf)
            | fail)
          exact keepOf (v₀ := .a (.bool true)) [.cells [.int .i64 room, .slc 1 0 M.length cap1] 57 false, .cells cs1' 61 mk1, .cells [.int .i64 room, .slc 4 0 M.length cap2'] 47 false, .cells cs2 69 mk2, .cells cs2' 69 mk'] [0, 1, 2, 3, 5] rfl ⟨rfl, ren_pl q1 _ _ _, rfl, ren_pl h2 _ _ _, ren_pl q2 _ _ _, trivial⟩ (by simp [nodupb, baseb, Ob.okb, frmOk, V.okb, A.okb, h2.2, q1.2, q2.2] <;> decide) (hKc M M.length cap1 cap2' cs1' cs2' mk' rfl hMr ⟨y1', e1', c1'⟩ ⟨y2', e2', c2'⟩)
      ·
        conv => whnf
        repeat' (first
          | rw [← hz3]
          | rw [hrz]
          | rw [Nat.zero_mul Try.prog.types[69].size]
          | ((with_reducible refine regx_of ?_ ?_); (· decide +kernel); conv => whnf)
          | ((with_reducible refine growx_pre ?_ ?_); (· exact ⟨_, rfl⟩); conv => whnf)
          | ((with_reducible refine needm_of ?_ ?_); (· first | assumption | exact decide_eq_true (by omega) | exact mkOK_of (by decide) | decide +kernel | (refine decide_eq_true ?_; simp (disch := omega) only [i64w]; omega)); conv => whnf)
          | ((with_reducible refine condm_pos ?_ ?_); (· assumption); conv => whnf)
          | ((with_reducible refine condm_neg ?_ ?_); (· assumption); conv => whnf)
          | ((with_reducible refine forceL_fv (by assumption) ?_); conv => whnf)
          | ((with_reducible refine forceL_rfv (by assumption) ?_); conv => whnf)
          | ((with_reducible refine forceNm_of ?_); conv => whnf)
          | ((with_reducible refine needm_of (fv_lenL (by assumption) (by assumption)) ?_); conv => whnf)
          | ((with_reducible refine optm_var (fv_strL (by assumption) (by assumption)) (fun s hs => ?_)); conv => whnf)
          | ((with_reducible refine forceA_of ?_); conv => whnf)
          | ((with_reducible refine forceL_pl (by assumption) ?_); conv => whnf)
          | ((with_reducible refine forceL_rpl (by assumption) ?_); conv => whnf)
          | ((with_reducible refine needm_of ?_ ?_); (· first | (rw [hxl, hzl]; rfl) | (rw [hxl]; rfl)); conv => whnf)
          | ((with_reducible refine forceL_to (whole_of ?_) ?_); (· rw [hxl]; rfl); conv => whnf)
          | ((with_reducible refine forceL_to (store_all ?_) ?_); (· first | rw [hxl, hzl] | rfl); conv => whnf)
          | ((with_reducible apply optm_of); (· first | exact g1 | exact g2 | exact g3 | exact g4 | exact g5 | exact g6); conv => whnf)
          | fail)
        refine condm_of (fun k3 => ?_) (fun k3 => ?_)
        ·
          conv => whnf
          repeat' (first
            | rw [← hz3]
            | rw [hrz]
            | rw [Nat.zero_mul Try.prog.types[69].size]
            | ((with_reducible refine regx_of ?_ ?_); (· decide +kernel); conv => whnf)
            | ((with_reducible refine growx_pre ?_ ?_); (· exact ⟨_, rfl⟩); conv => whnf)
            | ((with_reducible refine needm_of ?_ ?_); (· first | assumption | exact decide_eq_true (by omega) | exact mkOK_of (by decide) | decide +kernel | (refine decide_eq_true ?_; simp (disch := omega) only [i64w]; omega)); conv => whnf)
            | ((with_reducible refine condm_pos ?_ ?_); (· assumption); conv => whnf)
            | ((with_reducible refine condm_neg ?_ ?_); (· assumption); conv => whnf)
            | ((with_reducible refine forceL_fv (by assumption) ?_); conv => whnf)
            | ((with_reducible refine forceL_rfv (by assumption) ?_); conv => whnf)
            | ((with_reducible refine forceNm_of ?_); conv => whnf)
            | ((with_reducible refine needm_of (fv_lenL (by assumption) (by assumption)) ?_); conv => whnf)
            | ((with_reducible refine optm_var (fv_strL (by assumption) (by assumption)) (fun s hs => ?_)); conv => whnf)
            | ((with_reducible refine forceA_of ?_); conv => whnf)
            | ((with_reducible refine forceL_pl (by assumption) ?_); conv => whnf)
            | ((with_reducible refine forceL_rpl (by assumption) ?_); conv => whnf)
            | ((with_reducible refine needm_of ?_ ?_); (· first | (rw [hxl, hzl]; rfl) | (rw [hxl]; rfl)); conv => whnf)
            | ((with_reducible refine forceL_to (whole_of ?_) ?_); (· rw [hxl]; rfl); conv => whnf)
            | ((with_reducible refine forceL_to (store_all ?_) ?_); (· first | rw [hxl, hzl] | rfl); conv => whnf)
            | ((with_reducible apply optm_of); (· first | exact g1 | exact g2 | exact g3 | exact g4 | exact g5 | exact g6); conv => whnf)
            | fail)
          refine Go.Eng.Fn.frame [2, 3] (by rfl) (by exact ⟨rfl, ren_pl h2 _ _ _, trivial⟩) (by simp [nodupb, V.okb, A.okb, Ob.okb, h2.2] <;> decide) (deliver31 room i L y2 cs2 cap2 mk2 e2 c2 hL (fun h xr hxr => ?_) (fun x hx h xr hxr y2' cs2' cap2' mk' e2' c2' => ?_))
          · skip
            have hxp : Pl xr := by rw [hxr]; exact ⟨fun _ => rfl, fun _ => rfl⟩
            have hxl : xr.length = 3 := by rw [hxr]; rfl
            conv => whnf
            repeat' (first
              | rw [← hz3]
              | rw [hrz]
              | rw [Nat.zero_mul Try.prog.types[69].size]
              | ((with_reducible refine regx_of ?_ ?_); (· decide +kernel); conv => whnf)
              | ((with_reducible refine growx_pre ?_ ?_); (· exact ⟨_, rfl⟩); conv => whnf)
              | ((with_reducible refine needm_of ?_ ?_); (· first | assumption | exact decide_eq_true (by omega) | exact mkOK_of (by decide) | decide +kernel | (refine decide_eq_true ?_; simp (disch := omega) only [i64w]; omega)); conv => whnf)
              | ((with_reducible refine condm_pos ?_ ?_); (· assumption); conv => whnf)
              | ((with_reducible refine condm_neg ?_ ?_); (· assumption); conv => whnf)
              | ((with_reducible refine forceL_fv (by assumption) ?_); conv => whnf)
              | ((with_reducible refine forceL_rfv (by assumption) ?_); conv => whnf)
              | ((with_reducible refine forceNm_of ?_); conv => whnf)
              | ((with_reducible refine needm_of (fv_lenL (by assumption) (by assumption)) ?_); conv => whnf)
              | ((with_reducible refine optm_var (fv_strL (by assumption) (by assumption)) (fun s hs => ?_)); conv => whnf)
              | ((with_reducible refine forceA_of ?_); conv => whnf)
              | ((with_reducible refine forceL_pl (by assumption) ?_); conv => whnf)
              | ((with_reducible refine forceL_rpl (by assumption) ?_); conv => whnf)
              | ((with_reducible refine needm_of ?_ ?_); (· first | (rw [hxl, hzl]; rfl) | (rw [hxl]; rfl)); conv => whnf)
              | ((with_reducible refine forceL_to (whole_of ?_) ?_); (· rw [hxl]; rfl); conv => whnf)
              | ((with_reducible refine forceL_to (store_all ?_) ?_); (· first | rw [hxl, hzl] | rfl); conv => whnf)
              | ((with_reducible apply optm_of); (· first | exact g1 | exact g2 | exact g3 | exact g4 | exact g5 | exact g6); conv => whnf)
              | fail)
            refine Go.Eng.Fn.frame [0, 1] (by rfl) (by exact ⟨rfl, ren_pl h1 _ _ _, trivial⟩) (by simp [nodupb, V.okb, A.okb, Ob.okb, h1.2] <;> decide) (drop12 room i L y1 cs1 cap1 mk1 e1 c1 hL (fun _ => ?_) (fun h' y1' cs1' e1' c1' => absurd h' h))
            conv => whnf
            repeat' (first
              | rw [← hz3]
              | rw [hrz]
              | rw [Nat.zero_mul Try.prog.types[69].size]
              | ((with_reducible refine regx_of ?_ ?_); (· decide +kernel); conv => whnf)
              | ((with_reducible refine growx_pre ?_ ?_); (· exact ⟨_, rfl⟩); conv => whnf)
              | ((with_reducible refine needm_of ?_ ?_); (· first | assumption | exact decide_eq_true (by omega) | exact mkOK_of (by decide) | decide +kernel | (refine decide_eq_true ?_; simp (disch := omega) only [i64w]; omega)); conv => whnf)
              | ((with_reducible refine condm_pos ?_ ?_); (· assumption); conv => whnf)
              | ((with_reducible refine condm_neg ?_ ?_); (· assumption); conv => whnf)
              | ((with_reducible refine forceL_fv (by assumption) ?_); conv => whnf)
              | ((with_reducible refine forceL_rfv (by assumption) ?_); conv => whnf)
              | ((with_reducible refine forceNm_of ?_); conv => whnf)
              | ((with_reducible refine needm_of (fv_lenL (by assumption) (by assumption)) ?_); conv => whnf)
              | ((with_reducible refine optm_var (fv_strL (by assumption) (by assumption)) (fun s hs => ?_)); conv => whnf)
              | ((with_reducible refine forceA_of ?_); conv => whnf)
              | ((with_reducible refine forceL_pl (by assumption) ?_); conv => whnf)
              | ((with_reducible refine forceL_rpl (by assumption) ?_); conv => whnf)
              | ((with_reducible refine needm_of ?_ ?_); (· first | (rw [hxl, hzl]; rfl) | (rw [hxl]; rfl)); conv => whnf)
              | ((with_reducible refine forceL_to (whole_of ?_) ?_); (· rw [hxl]; rfl); conv => whnf)
              | ((with_reducible refine forceL_to (store_all ?_) ?_); (· first | rw [hxl, hzl] | rfl); conv => whnf)
              | ((with_reducible apply optm_of); (· first | exact g1 | exact g2 | exact g3 | exact g4 | exact g5 | exact g6); conv => whnf)
              | fail)
            exact keepOf (v₀ := .a (.bool true)) [.cells [.int .i64 room, .slc 1 0 L.length cap1] 57 false, .cells cs1 61 mk1, .cells [.int .i64 room, .slc 3 0 L.length cap2] 47 false, .cells cs2 69 mk2] [0, 1, 2, 3] rfl ⟨rfl, ren_pl h1 _ _ _, rfl, ren_pl h2 _ _ _, trivial⟩ (by simp [nodupb, baseb, Ob.okb, frmOk, V.okb, A.okb, h1.2, h2.2] <;> decide) (hKa L L.length cap1 cap2 cs1 cs2 rfl hr ⟨y1, e1, c1⟩ ⟨y2, e2, c2⟩)
          · skip
            obtain ⟨M, hM⟩ : ∃ M, M = L.eraseIdx i.toNat := ⟨_, rfl⟩
            rw [← hM] at e2' c2' ⊢
            have hMr : M.length ≤ room := by
              have : M.length ≤ L.length := by rw [hM, List.length_eraseIdx]; split <;> omega
              omega
            have q2 := Pl.fls e2'
            have hxp : Pl xr := by rw [hxr]; exact ⟨fun _ => rfl, fun _ => rfl⟩
            have hxl : xr.length = 3 := by rw [hxr]; rfl
            conv => whnf
            repeat' (first
              | rw [← hz3]
              | rw [hrz]
              | rw [Nat.zero_mul Try.prog.types[69].size]
              | ((with_reducible refine regx_of ?_ ?_); (· decide +kernel); conv => whnf)
              | ((with_reducible refine growx_pre ?_ ?_); (· exact ⟨_, rfl⟩); conv => whnf)
              | ((with_reducible refine needm_of ?_ ?_); (· first | assumption | exact decide_eq_true (by omega) | exact mkOK_of (by decide) | decide +kernel | (refine decide_eq_true ?_; simp (disch := omega) only [i64w]; omega)); conv => whnf)
              | ((with_reducible refine condm_pos ?_ ?_); (· assumption); conv => whnf)
              | ((with_reducible refine condm_neg ?_ ?_); (· assumption); conv => whnf)
              | ((with_reducible refine forceL_fv (by assumption) ?_); conv => whnf)
              | ((with_reducible refine forceL_rfv (by assumption) ?_); conv => whnf)
              | ((with_reducible refine forceNm_of ?_); conv => whnf)
              | ((with_reducible refine needm_of (fv_lenL (by assumption) (by assumption)) ?_); conv => whnf)
              | ((with_reducible refine optm_var (fv_strL (by assumption) (by assumption)) (fun s hs => ?_)); conv => whnf)
              | ((with_reducible refine forceA_of ?_); conv => whnf)
              | ((with_reducible refine forceL_pl (by assumption) ?_); conv => whnf)
              | ((with_reducible refine forceL_rpl (by assumption) ?_); conv => whnf)
              | ((with_reducible refine needm_of ?_ ?_); (· first | (rw [hxl, hzl]; rfl) | (rw [hxl]; rfl)); conv => whnf)
              | ((with_reducible refine forceL_to (whole_of ?_) ?_); (· rw [hxl]; rfl); conv => whnf)
              | ((with_reducible refine forceL_to (store_all ?_) ?_); (· first | rw [hxl, hzl] | rfl); conv => whnf)
              | ((with_reducible apply optm_of); (· first | exact g1 | exact g2 | exact g3 | exact g4 | exact g5 | exact g6); conv => whnf)
              | fail)
            refine Go.Eng.Fn.frame [0, 1] (by rfl) (by exact ⟨rfl, ren_pl h1 _ _ _, trivial⟩) (by simp [nodupb, V.okb, A.okb, Ob.okb, h1.2] <;> decide) (drop12 room i L y1 cs1 cap1 mk1 e1 c1 hL (fun h' => absurd h h') (fun _ y1' cs1' e1' c1' => ?_))
            rw [← hM] at e1' c1' ⊢
            have q1 := Pl.fls e1'
            conv => whnf
            repeat' (first
              | rw [← hz3]
              | rw [hrz]
              | rw [Nat.zero_mul Try.prog.types[69].size]
              | ((with_reducible refine regx_of ?_ ?_); (· decide +kernel); conv => whnf)
              | ((with_reducible refine growx_pre ?_ ?_); (· exact ⟨_, rfl⟩); conv => whnf)
              | ((with_reducible refine needm_of ?_ ?_); (· first | assumption | exact decide_eq_true (by omega) | exact mkOK_of (by decide) | decide +kernel | (refine decide_eq_true ?_; simp (disch := omega) only [i64w]; omega)); conv => whnf)
              | ((with_reducible refine condm_pos ?_ ?_); (· assumption); conv => whnf)
              | ((with_reducible refine condm_neg ?_ ?_); (· assumption); conv => whnf)
              | ((with_reducible refine forceL_fv (by assumption) ?_); conv => whnf)
              | ((with_reducible refine forceL_rfv (by assumption) ?_); conv => whnf)
              | ((with_reducible refine forceNm_of ?_); conv => whnf)
              | ((with_reducible refine needm_of (fv_lenL (by assumption) (by assumption)) ?_); conv => whnf)
              | ((with_reducible refine optm_var (fv_strL (by assumption) (by assumption)) (fun s hs => ?_)); conv => whnf)
              | ((with_reducible refine forceA_of ?_); conv => whnf)
              | ((with_reducible refine forceL_pl (by assumption) ?_); conv => whnf)
              | ((with_reducible refine forceL_rpl (by assumption) ?_); conv => whnf)
              | ((with_reducible refine needm_of ?_ ?_); (· first | (rw [hxl, hzl]; rfl) | (rw [hxl]; rfl)); conv => whnf)
              | ((with_reducible refine forceL_to (whole_of ?_) ?_); (· rw [hxl]; rfl); conv => whnf)
              | ((with_reducible refine forceL_to (store_all ?_) ?_); (· first | rw [hxl, hzl] | rfl); conv => whnf)
              | ((with_reducible apply optm_of); (· first | exact g1 | exact g2 | exact g3 | exact g4 | exact g5 | exact g6); conv => whnf)
              | fail)
            exact keepOf (v₀ := .a (.bool true)) [.cells [.int .i64 room, .slc 1 0 M.length cap1] 57 false, .cells cs1' 61 mk1, .cells [.int .i64 room, .slc 4 0 M.length cap2'] 47 false, .cells cs2 69 mk2, .cells cs2' 69 mk'] [0, 1, 2, 3, 5] rfl ⟨rfl, ren_pl q1 _ _ _, rfl, ren_pl h2 _ _ _, ren_pl q2 _ _ _, trivial⟩ (by simp [nodupb, baseb, Ob.okb, frmOk, V.okb, A.okb, h2.2, q1.2, q2.2] <;> decide) (hKc M M.length cap1 cap2' cs1' cs2' mk' rfl hMr ⟨y1', e1', c1'⟩ ⟨y2', e2', c2'⟩)
        ·
          conv => whnf
          repeat' (first
            | rw [← hz3]
            | rw [hrz]
            | rw [Nat.zero_mul Try.prog.types[69].size]
            | ((with_reducible refine regx_of ?_ ?_); (· decide +kernel); conv => whnf)
            | ((with_reducible refine growx_pre ?_ ?_); (· exact ⟨_, rfl⟩); conv => whnf)
            | ((with_reducible refine needm_of ?_ ?_); (· first | assumption | exact decide_eq_true (by omega) | exact mkOK_of (by decide) | decide +kernel | (refine decide_eq_true ?_; simp (disch := omega) only [i64w]; omega)); conv => whnf)
            | ((with_reducible refine condm_pos ?_ ?_); (· assumption); conv => whnf)
            | ((with_reducible refine condm_neg ?_ ?_); (· assumption); conv => whnf)
            | ((with_reducible refine forceL_fv (by assumption) ?_); conv => whnf)
            | ((with_reducible refine forceL_rfv (by assumption) ?_); conv => whnf)
            | ((with_reducible refine forceNm_of ?_); conv => whnf)
            | ((with_reducible refine needm_of (fv_lenL (by assumption) (by assumption)) ?_); conv => whnf)
            | ((with_reducible refine optm_var (fv_strL (by assumption) (by assumption)) (fun s hs => ?_)); conv => whnf)
            | ((with_reducible refine forceA_of ?_); conv => whnf)
            | ((with_reducible refine forceL_pl (by assumption) ?_); conv => whnf)
            | ((with_reducible refine forceL_rpl (by assumption) ?_); conv => whnf)
            | ((with_reducible refine needm_of ?_ ?_); (· first | (rw [hxl, hzl]; rfl) | (rw [hxl]; rfl)); conv => whnf)
            | ((with_reducible refine forceL_to (whole_of ?_) ?_); (· rw [hxl]; rfl); conv => whnf)
            | ((with_reducible refine forceL_to (store_all ?_) ?_); (· first | rw [hxl, hzl] | rfl); conv => whnf)
            | ((with_reducible apply optm_of); (· first | exact g1 | exact g2 | exact g3 | exact g4 | exact g5 | exact g6); conv => whnf)
            | fail)
          refine condm_of (fun k4 => ?_) (fun k4 => ?_)
          ·
            conv => whnf
            repeat' (first
              | rw [← hz3]
              | rw [hrz]
              | rw [Nat.zero_mul Try.prog.types[69].size]
              | ((with_reducible refine regx_of ?_ ?_); (· decide +kernel); conv => whnf)
              | ((with_reducible refine growx_pre ?_ ?_); (· exact ⟨_, rfl⟩); conv => whnf)
              | ((with_reducible refine needm_of ?_ ?_); (· first | assumption | exact decide_eq_true (by omega) | exact mkOK_of (by decide) | decide +kernel | (refine decide_eq_true ?_; simp (disch := omega) only [i64w]; omega)); conv => whnf)
              | ((with_reducible refine condm_pos ?_ ?_); (· assumption); conv => whnf)
              | ((with_reducible refine condm_neg ?_ ?_); (· assumption); conv => whnf)
              | ((with_reducible refine forceL_fv (by assumption) ?_); conv => whnf)
              | ((with_reducible refine forceL_rfv (by assumption) ?_); conv => whnf)
              | ((with_reducible refine forceNm_of ?_); conv => whnf)
              | ((with_reducible refine needm_of (fv_lenL (by assumption) (by assumption)) ?_); conv => whnf)
              | ((with_reducible refine optm_var (fv_strL (by assumption) (by assumption)) (fun s hs => ?_)); conv => whnf)
              | ((with_reducible refine forceA_of ?_); conv => whnf)
              | ((with_reducible refine forceL_pl (by assumption) ?_); conv => whnf)
              | ((with_reducible refine forceL_rpl (by assumption) ?_); conv => whnf)
              | ((with_reducible refine needm_of ?_ ?_); (· first | (rw [hxl, hzl]; rfl) | (rw [hxl]; rfl)); conv => whnf)
              | ((with_reducible refine forceL_to (whole_of ?_) ?_); (· rw [hxl]; rfl); conv => whnf)
              | ((with_reducible refine forceL_to (store_all ?_) ?_); (· first | rw [hxl, hzl] | rfl); conv => whnf)
              | ((with_reducible apply optm_of); (· first | exact g1 | exact g2 | exact g3 | exact g4 | exact g5 | exact g6); conv => whnf)
              | fail)
            refine Go.Eng.Fn.frame [2, 3] (by rfl) (by exact ⟨rfl, ren_pl h2 _ _ _, trivial⟩) (by simp [nodupb, V.okb, A.okb, Ob.okb, h2.2] <;> decide) (copy32 room i L y2 cs2 cap2 mk2 e2 c2 hL (fun ho => ?_) (fun ho hl => ?_) (fun x hx ho hl y2' cs2' e2' c2' => ?_) (fun x hx ho hl y2' cs2' cap2' e2' c2' => ?_))
            · skip
              conv => whnf
              repeat' (first
                | rw [← hz3]
                | rw [hrz]
                | rw [Nat.zero_mul Try.prog.types[69].size]
                | ((with_reducible refine regx_of ?_ ?_); (· decide +kernel); conv => whnf)
                | ((with_reducible refine growx_pre ?_ ?_); (· exact ⟨_, rfl⟩); conv => whnf)
                | ((with_reducible refine needm_of ?_ ?_); (· first | assumption | exact decide_eq_true (by omega) | exact mkOK_of (by decide) | decide +kernel | (refine decide_eq_true ?_; simp (disch := omega) only [i64w]; omega)); conv => whnf)
                | ((with_reducible refine condm_pos ?_ ?_); (· assumption); conv => whnf)
                | ((with_reducible refine condm_neg ?_ ?_); (· assumption); conv => whnf)
                | ((with_reducible refine forceL_fv (by assumption) ?_); conv => whnf)
                | ((with_reducible refine forceL_rfv (by assumption) ?_); conv => whnf)
                | ((with_reducible refine forceNm_of ?_); conv => whnf)
                | ((with_reducible refine needm_of (fv_lenL (by assumption) (by assumption)) ?_); conv => whnf)
                | ((with_reducible refine optm_var (fv_strL (by assumption) (by assumption)) (fun s hs => ?_)); conv => whnf)
                | ((with_reducible refine forceA_of ?_); conv => whnf)
                | ((with_reducible refine forceL_pl (by assumption) ?_); conv => whnf)
                | ((with_reducible refine forceL_rpl (by assumption) ?_); conv => whnf)
                | ((with_reducible refine needm_of ?_ ?_); (· first | (rw [hxl, hzl]; rfl) | (rw [hxl]; rfl)); conv => whnf)
                | ((with_reducible refine forceL_to (whole_of ?_) ?_); (· rw [hxl]; rfl); conv => whnf)
                | ((with_reducible refine forceL_to (store_all ?_) ?_); (· first | rw [hxl, hzl] | rfl); conv => whnf)
                | ((with_reducible apply optm_of); (· first | exact g1 | exact g2 | exact g3 | exact g4 | exact g5 | exact g6); conv => whnf)
                | fail)
              refine Go.Eng.Fn.frame [0, 1] (by rfl) (by exact ⟨rfl, ren_pl h1 _ _ _, trivial⟩) (by simp [nodupb, V.okb, A.okb, Ob.okb, h1.2] <;> decide) (copy16 room i L y1 cs1 cap1 mk1 e1 c1 hL (fun ho' => ?_) (fun ho' hl' => absurd ho' ho) (fun x' hx' ho' hl' y1' cs1' e1' c1' => absurd ho' ho) (fun x' hx' ho' hl' y1' cs1' cap1' e1' c1' => absurd ho' ho))
              conv => whnf
              repeat' (first
                | rw [← hz3]
                | rw [hrz]
                | rw [Nat.zero_mul Try.prog.types[69].size]
                | ((with_reducible refine regx_of ?_ ?_); (· decide +kernel); conv => whnf)
                | ((with_reducible refine growx_pre ?_ ?_); (· exact ⟨_, rfl⟩); conv => whnf)
                | ((with_reducible refine needm_of ?_ ?_); (· first | assumption | exact decide_eq_true (by omega) | exact mkOK_of (by decide) | decide +kernel | (refine decide_eq_true ?_; simp (disch := omega) only [i64w]; omega)); conv => whnf)
                | ((with_reducible refine condm_pos ?_ ?_); (· assumption); conv => whnf)
                | ((with_reducible refine condm_neg ?_ ?_); (· assumption); conv => whnf)
                | ((with_reducible refine forceL_fv (by assumption) ?_); conv => whnf)
                | ((with_reducible refine forceL_rfv (by assumption) ?_); conv => whnf)
                | ((with_reducible refine forceNm_of ?_); conv => whnf)
                | ((with_reducible refine needm_of (fv_lenL (by assumption) (by assumption)) ?_); conv => whnf)
                | ((with_reducible refine optm_var (fv_strL (by assumption) (by assumption)) (fun s hs => ?_)); conv => whnf)
                | ((with_reducible refine forceA_of ?_); conv => whnf)
                | ((with_reducible refine forceL_pl (by assumption) ?_); conv => whnf)
                | ((with_reducible refine forceL_rpl (by assumption) ?_); conv => whnf)
                | ((with_reducible refine needm_of ?_ ?_); (· first | (rw [hxl, hzl]; rfl) | (rw [hxl]; rfl)); conv => whnf)
                | ((with_reducible refine forceL_to (whole_of ?_) ?_); (· rw [hxl]; rfl); conv => whnf)
                | ((with_reducible refine forceL_to (store_all ?_) ?_); (· first | rw [hxl, hzl] | rfl); conv => whnf)
                | ((with_reducible apply optm_of); (· first | exact g1 | exact g2 | exact g3 | exact g4 | exact g5 | exact g6); conv => whnf)
                | fail)
              exact keepOf (v₀ := .a (.bool true)) [.cells [.int .i64 room, .slc 1 0 L.length cap1] 57 false, .cells cs1 61 mk1, .cells [.int .i64 room, .slc 3 0 L.length cap2] 47 false, .cells cs2 69 mk2] [0, 1, 2, 3] rfl ⟨rfl, ren_pl h1 _ _ _, rfl, ren_pl h2 _ _ _, trivial⟩ (by simp [nodupb, baseb, Ob.okb, frmOk, V.okb, A.okb, h1.2, h2.2] <;> decide) (hKa L L.length cap1 cap2 cs1 cs2 rfl hr ⟨y1, e1, c1⟩ ⟨y2, e2, c2⟩)
            · skip
              conv => whnf
              repeat' (first
                | rw [← hz3]
                | rw [hrz]
                | rw [Nat.zero_mul Try.prog.types[69].size]
                | ((with_reducible refine regx_of ?_ ?_); (· decide +kernel); conv => whnf)
                | ((with_reducible refine growx_pre ?_ ?_); (· exact ⟨_, rfl⟩); conv => whnf)
                | ((with_reducible refine needm_of ?_ ?_); (· first | assumption | exact decide_eq_true (by omega) | exact mkOK_of (by decide) | decide +kernel | (refine decide_eq_true ?_; simp (disch := omega) only [i64w]; omega)); conv => whnf)
                | ((with_reducible refine condm_pos ?_ ?_); (· assumption); conv => whnf)
                | ((with_reducible refine condm_neg ?_ ?_); (· assumption); conv => whnf)
                | ((with_reducible refine forceL_fv (by assumption) ?_); conv => whnf)
                | ((with_reducible refine forceL_rfv (by assumption) ?_); conv => whnf)
                | ((with_reducible refine forceNm_of ?_); conv => whnf)
                | ((with_reducible refine needm_of (fv_lenL (by assumption) (by assumption)) ?_); conv => whnf)
                | ((with_reducible refine optm_var (fv_strL (by assumption) (by assumption)) (fun s hs => ?_)); conv => whnf)
                | ((with_reducible refine forceA_of ?_); conv => whnf)
                | ((with_reducible refine forceL_pl (by assumption) ?_); conv => whnf)
                | ((with_reducible refine forceL_rpl (by assumption) ?_); conv => whnf)
                | ((with_reducible refine needm_of ?_ ?_); (· first | (rw [hxl, hzl]; rfl) | (rw [hxl]; rfl)); conv => whnf)
                | ((with_reducible refine forceL_to (whole_of ?_) ?_); (· rw [hxl]; rfl); conv => whnf)
                | ((with_reducible refine forceL_to (store_all ?_) ?_); (· first | rw [hxl, hzl] | rfl); conv => whnf)
                | ((with_reducible apply optm_of); (· first | exact g1 | exact g2 | exact g3 | exact g4 | exact g5 | exact g6); conv => whnf)
                | fail)
              refine Go.Eng.Fn.frame [0, 1] (by rfl) (by exact ⟨rfl, ren_pl h1 _ _ _, trivial⟩) (by simp [nodupb, V.okb, A.okb, Ob.okb, h1.2] <;> decide) (copy16 room i L y1 cs1 cap1 mk1 e1 c1 hL (fun ho' => absurd ho ho') (fun ho' hl' => ?_) (fun x' hx' ho' hl' y1' cs1' e1' c1' => by omega) (fun x' hx' ho' hl' y1' cs1' cap1' e1' c1' => by omega))
              conv => whnf
              repeat' (first
                | rw [← hz3]
                | rw [hrz]
                | rw [Nat.zero_mul Try.prog.types[69].size]
                | ((with_reducible refine regx_of ?_ ?_); (· decide +kernel); conv => whnf)
                | ((with_reducible refine growx_pre ?_ ?_); (· exact ⟨_, rfl⟩); conv => whnf)
                | ((with_reducible refine needm_of ?_ ?_); (· first | assumption | exact decide_eq_true (by omega) | exact mkOK_of (by decide) | decide +kernel | (refine decide_eq_true ?_; simp (disch := omega) only [i64w]; omega)); conv => whnf)
                | ((with_reducible refine condm_pos ?_ ?_); (· assumption); conv => whnf)
                | ((with_reducible refine condm_neg ?_ ?_); (· assumption); conv => whnf)
                | ((with_reducible refine forceL_fv (by assumption) ?_); conv => whnf)
                | ((with_reducible refine forceL_rfv (by assumption) ?_); conv => whnf)
                | ((with_reducible refine forceNm_of ?_); conv => whnf)
                | ((with_reducible refine needm_of (fv_lenL (by assumption) (by assumption)) ?_); conv => whnf)
                | ((with_reducible refine optm_var (fv_strL (by assumption) (by assumption)) (fun s hs => ?_)); conv => whnf)
                | ((with_reducible refine forceA_of ?_); conv => whnf)
                | ((with_reducible refine forceL_pl (by assumption) ?_); conv => whnf)
                | ((with_reducible refine forceL_rpl (by assumption) ?_); conv => whnf)
                | ((with_reducible refine needm_of ?_ ?_); (· first | (rw [hxl, hzl]; rfl) | (rw [hxl]; rfl)); conv => whnf)
                | ((with_reducible refine forceL_to (whole_of ?_) ?_); (· rw [hxl]; rfl); conv => whnf)
                | ((with_reducible refine forceL_to (store_all ?_) ?_); (· first | rw [hxl, hzl] | rfl); conv => whnf)
                | ((with_reducible apply optm_of); (· first | exact g1 | exact g2 | exact g3 | exact g4 | exact g5 | exact g6); conv => whnf)
                | fail)
              exact keepOf (v₀ := .a (.bool true)) [.cells [.int .i64 room, .slc 1 0 L.length cap1] 57 false, .cells cs1 61 mk1, .cells [.int .i64 room, .slc 3 0 L.length cap2] 47 false, .cells cs2 69 mk2] [0, 1, 2, 3] rfl ⟨rfl, ren_pl h1 _ _ _, rfl, ren_pl h2 _ _ _, trivial⟩ (by simp [nodupb, baseb, Ob.okb, frmOk, V.okb, A.okb, h1.2, h2.2] <;> decide) (hKa L L.length cap1 cap2 cs1 cs2 rfl hr ⟨y1, e1, c1⟩ ⟨y2, e2, c2⟩)
            · skip
              skip
              obtain ⟨M, hM⟩ : ∃ M, M = L ++ [x] := ⟨_, rfl⟩
              rw [← hM] at e2' c2' ⊢
              have hMl : M.length = L.length + 1 := by rw [hM]; simp
              have hMr : M.length ≤ room := by omega
              have q2 := Pl.fls e2'
              conv => whnf
              repeat' (first
                | rw [← hz3]
                | rw [hrz]
                | rw [Nat.zero_mul Try.prog.types[69].size]
                | ((with_reducible refine regx_of ?_ ?_); (· decide +kernel); conv => whnf)
                | ((with_reducible refine growx_pre ?_ ?_); (· exact ⟨_, rfl⟩); conv => whnf)
                | ((with_reducible refine needm_of ?_ ?_); (· first | assumption | exact decide_eq_true (by omega) | exact mkOK_of (by decide) | decide +kernel | (refine decide_eq_true ?_; simp (disch := omega) only [i64w]; omega)); conv => whnf)
                | ((with_reducible refine condm_pos ?_ ?_); (· assumption); conv => whnf)
                | ((with_reducible refine condm_neg ?_ ?_); (· assumption); conv => whnf)
                | ((with_reducible refine forceL_fv (by assumption) ?_); conv => whnf)
                | ((with_reducible refine forceL_rfv (by assumption) ?_); conv => whnf)
                | ((with_reducible refine forceNm_of ?_); conv => whnf)
                | ((with_reducible refine needm_of (fv_lenL (by assumption) (by assumption)) ?_); conv => whnf)
                | ((with_reducible refine optm_var (fv_strL (by assumption) (by assumption)) (fun s hs => ?_)); conv => whnf)
                | ((with_reducible refine forceA_of ?_); conv => whnf)
                | ((with_reducible refine forceL_pl (by assumption) ?_); conv => whnf)
                | ((with_reducible refine forceL_rpl (by assumption) ?_); conv => whnf)
                | ((with_reducible refine needm_of ?_ ?_); (· first | (rw [hxl, hzl]; rfl) | (rw [hxl]; rfl)); conv => whnf)
                | ((with_reducible refine forceL_to (whole_of ?_) ?_); (· rw [hxl]; rfl); conv => whnf)
                | ((with_reducible refine forceL_to (store_all ?_) ?_); (· first | rw [hxl, hzl] | rfl); conv => whnf)
                | ((with_reducible apply optm_of); (· first | exact g1 | exact g2 | exact g3 | exact g4 | exact g5 | exact g6); conv => whnf)
                | fail)
              refine Go.Eng.Fn.frame [0, 1] (by rfl) (by exact ⟨rfl, ren_pl h1 _ _ _, trivial⟩) (by simp [nodupb, V.okb, A.okb, Ob.okb, h1.2] <;> decide) (copy16 room i L y1 cs1 cap1 mk1 e1 c1 hL (fun ho' => absurd ho ho') (fun ho' hl' => by omega) (fun x' hx' ho' hl' y1' cs1' e1' c1' => ?_) (fun x' hx' ho' hl' y1' cs1' cap1' e1' c1' => ?_))
              · skip
                obtain rfl : x = x' := by
                  rw [hx] at hx'; injection hx'
                rw [← hM] at e1' c1' ⊢
                have q1 := Pl.fls e1'
                conv => whnf
                repeat' (first
                  | rw [← hz3]
                  | rw [hrz]
                  | rw [Nat.zero_mul Try.prog.types[69].size]
                  | ((with_reducible refine regx_of ?_ ?_); (· decide +kernel); conv => whnf)
                  | ((with_reducible refine growx_pre ?_ ?_); (· exact ⟨_, rfl⟩); conv => whnf)
                  | ((with_reducible refine needm_of ?_ ?_); (· first | assumption | exact decide_eq_true (by omega) | exact mkOK_of (by decide) | decide +kernel | (refine decide_eq_true ?_; simp (disch := omega) only [i64w]; omega)); conv => whnf)
                  | ((with_reducible refine condm_pos ?_ ?_); (· assumption); conv => whnf)
                  | ((with_reducible refine condm_neg ?_ ?_); (· assumption); conv => whnf)
                  | ((with_reducible refine forceL_fv (by assumption) ?_); conv => whnf)
                  | ((with_reducible refine forceL_rfv (by assumption) ?_); conv => whnf)
                  | ((with_reducible refine forceNm_of ?_); conv => whnf)
                  | ((with_reducible refine needm_of (fv_lenL (by assumption) (by assumption)) ?_); conv => whnf)
                  | ((with_reducible refine optm_var (fv_strL (by assumption) (by assumption)) (fun s hs => ?_)); conv => whnf)
                  | ((with_reducible refine forceA_of ?_); conv => whnf)
                  | ((with_reducible refine forceL_pl (by assumption) ?_); conv => whnf)
                  | ((with_reducible refine forceL_rpl (by assumption) ?_); conv => whnf)
                  | ((with_reducible refine needm_of ?_ ?_); (· first | (rw [hxl, hzl]; rfl) | (rw [hxl]; rfl)); conv => whnf)
                  | ((with_reducible refine forceL_to (whole_of ?_) ?_); (· rw [hxl]; rfl); conv => whnf)
                  | ((with_reducible refine forceL_to (store_all ?_) ?_); (· first | rw [hxl, hzl] | rfl); conv => whnf)
                  | ((with_reducible apply optm_of); (· first | exact g1 | exact g2 | exact g3 | exact g4 | exact g5 | exact g6); conv => whnf)
                  | fail)
                exact keepOf (v₀ := .a (.bool true)) [.cells [.int .i64 room, .slc 1 0 M.length cap1] 57 false, .cells cs1' 61 mk1, .cells [.int .i64 room, .slc 3 0 M.length cap2] 47 false, .cells cs2' 69 mk2] [0, 1, 2, 3] rfl ⟨rfl, ren_pl q1 _ _ _, rfl, ren_pl q2 _ _ _, trivial⟩ (by simp [nodupb, baseb, Ob.okb, frmOk, V.okb, A.okb, q1.2, q2.2] <;> decide) (hKa M M.length cap1 cap2 cs1' cs2' rfl hMr ⟨y1', e1', c1'⟩ ⟨y2', e2', c2'⟩)
              · skip
                obtain rfl : x = x' := by
                  rw [hx] at hx'; injection hx'
                rw [← hM] at e1' c1' ⊢
                have q1 := Pl.fls e1'
                conv => whnf
                repeat' (first
                  | rw [← hz3]
                  | rw [hrz]
                  | rw [Nat.zero_mul Try.prog.types[69].size]
                  | ((with_reducible refine regx_of ?_ ?_); (· decide +kernel); conv => whnf)
                  | ((with_reducible refine growx_pre ?_ ?_); (· exact ⟨_, rfl⟩); conv => whnf)
                  | ((with_reducible refine needm_of ?_ ?_); (· first | assumption | exact decide_eq_true (by omega) | exact mkOK_of (by decide) | decide +kernel | (refine decide_eq_true ?_; simp (disch := omega) only [i64w]; omega)); conv => whnf)
                  | ((with_reducible refine condm_pos ?_ ?_); (· assumption); conv => whnf)
                  | ((with_reducible refine condm_neg ?_ ?_); (· assumption); conv => whnf)
                  | ((with_reducible refine forceL_fv (by assumption) ?_); conv => whnf)
                  | ((with_reducible refine forceL_rfv (by assumption) ?_); conv => whnf)
                  | ((with_reducible refine forceNm_of ?_); conv => whnf)
                  | ((with_reducible refine needm_of (fv_lenL (by assumption) (by assumption)) ?_); conv => whnf)
                  | ((with_reducible refine optm_var (fv_strL (by assumption) (by assumption)) (fun s hs => ?_)); conv => whnf)
                  | ((with_reducible refine forceA_of ?_); conv => whnf)
                  | ((with_reducible refine forceL_pl (by assumption) ?_); conv => whnf)
                  | ((with_reducible refine forceL_rpl (by assumption) ?_); conv => whnf)
                  | ((with_reducible refine needm_of ?_ ?_); (· first | (rw [hxl, hzl]; rfl) | (rw [hxl]; rfl)); conv => whnf)
                  | ((with_reducible refine forceL_to (whole_of ?_) ?_); (· rw [hxl]; rfl); conv => whnf)
                  | ((with_reducible refine forceL_to (store_all ?_) ?_); (· first | rw [hxl, hzl] | rfl); conv => whnf)
                  | ((with_reducible apply optm_of); (· first | exact g1 | exact g2 | exact g3 | exact g4 | exact g5 | exact g6); conv => whnf)
                  | fail)
                exact keepOf (v₀ := .a (.bool true)) [.cells [.int .i64 room, .slc 4 0 M.length cap1'] 57 false, .cells cs1 61 mk1, .cells [.int .i64 room, .slc 3 0 M.length cap2] 47 false, .cells cs2' 69 mk2, .cells cs1' 61 false] [0, 1, 2, 3, 5] rfl ⟨rfl, ren_pl h1 _ _ _, rfl, ren_pl q2 _ _ _, ren_pl q1 _ _ _, trivial⟩ (by simp [nodupb, baseb, Ob.okb, frmOk, V.okb, A.okb, h1.2, q1.2, q2.2] <;> decide) (hKb M M.length cap1' cap2 cs1' cs2' rfl hMr ⟨y1', e1', c1'⟩ ⟨y2', e2', c2'⟩)
            · skip
              skip
              obtain ⟨M, hM⟩ : ∃ M, M = L ++ [x] := ⟨_, rfl⟩
              rw [← hM] at e2' c2' ⊢
              have hMl : M.length = L.length + 1 := by rw [hM]; simp
              have hMr : M.length ≤ room := by omega
              have q2 := Pl.fls e2'
              conv => whnf
              repeat' (first
                | rw [← hz3]
                | rw [hrz]
                | rw [Nat.zero_mul Try.prog.types[69].size]
                | ((with_reducible refine regx_of ?_ ?_); (· decide +kernel); conv => whnf)
                | ((with_reducible refine growx_pre ?_ ?_); (· exact ⟨_, rfl⟩); conv => whnf)
                | ((with_reducible refine needm_of ?_ ?_); (· first | assumption | exact decide_eq_true (by omega) | exact mkOK_of (by decide) | decide +kernel | (refine decide_eq_true ?_; simp (disch := omega) only [i64w]; omega)); conv => whnf)
                | ((with_reducible refine condm_pos ?_ ?_); (· assumption); conv => whnf)
                | ((with_reducible refine condm_neg ?_ ?_); (· assumption); conv => whnf)
                | ((with_reducible refine forceL_fv (by assumption) ?_); conv => whnf)
                | ((with_reducible refine forceL_rfv (by assumption) ?_); conv => whnf)
                | ((with_reducible refine forceNm_of ?_); conv => whnf)
                | ((with_reducible refine needm_of (fv_lenL (by assumption) (by assumption)) ?_); conv => whnf)
                | ((with_reducible refine optm_var (fv_strL (by assumption) (by assumption)) (fun s hs => ?_)); conv => whnf)
                | ((with_reducible refine forceA_of ?_); conv => whnf)
                | ((with_reducible refine forceL_pl (by assumption) ?_); conv => whnf)
                | ((with_reducible refine forceL_rpl (by assumption) ?_); conv => whnf)
                | ((with_reducible refine needm_of ?_ ?_); (· first | (rw [hxl, hzl]; rfl) | (rw [hxl]; rfl)); conv => whnf)
                | ((with_reducible refine forceL_to (whole_of ?_) ?_); (· rw [hxl]; rfl); conv => whnf)
                | ((with_reducible refine forceL_to (store_all ?_) ?_); (· first | rw [hxl, hzl] | rfl); conv => whnf)
                | ((with_reducible apply optm_of); (· first | exact g1 | exact g2 | exact g3 | exact g4 | exact g5 | exact g6); conv => whnf)
                | fail)
              refine Go.Eng.Fn.frame [0, 1] (by rfl) (by exact ⟨rfl, ren_pl h1 _ _ _, trivial⟩) (by simp [nodupb, V.okb, A.okb, Ob.okb, h1.2] <;> decide) (copy16 room i L y1 cs1 cap1 mk1 e1 c1 hL (fun ho' => absurd ho ho') (fun ho' hl' => by omega) (fun x' hx' ho' hl' y1' cs1' e1' c1' => ?_) (fun x' hx' ho' hl' y1' cs1' cap1' e1' c1' => ?_))
              · skip
                obtain rfl : x = x' := by
                  rw [hx] at hx'; injection hx'
                rw [← hM] at e1' c1' ⊢
                have q1 := Pl.fls e1'
                conv => whnf
                repeat' (first
                  | rw [← hz3]
                  | rw [hrz]
                  | rw [Nat.zero_mul Try.prog.types[69].size]
                  | ((with_reducible refine regx_of ?_ ?_); (· decide +kernel); conv => whnf)
                  | ((with_reducible refine growx_pre ?_ ?_); (· exact ⟨_, rfl⟩); conv => whnf)
                  | ((with_reducible refine needm_of ?_ ?_); (· first | assumption | exact decide_eq_true (by omega) | exact mkOK_of (by decide) | decide +kernel | (refine decide_eq_true ?_; simp (disch := omega) only [i64w]; omega)); conv => whnf)
                  | ((with_reducible refine condm_pos ?_ ?_); (· assumption); conv => whnf)
                  | ((with_reducible refine condm_neg ?_ ?_); (· assumption); conv => whnf)
                  | ((with_reducible refine forceL_fv (by assumption) ?_); conv => whnf)
                  | ((with_reducible refine forceL_rfv (by assumption) ?_); conv => whnf)
                  | ((with_reducible refine forceNm_of ?_); conv => whnf)
                  | ((with_reducible refine needm_of (fv_lenL (by assumption) (by assumption)) ?_); conv => whnf)
                  | ((with_reducible refine optm_var (fv_strL (by assumption) (by assumption)) (fun s hs => ?_)); conv => whnf)
                  | ((with_reducible refine forceA_of ?_); conv => whnf)
                  | ((with_reducible refine forceL_pl (by assumption) ?_); conv => whnf)
                  | ((with_reducible refine forceL_rpl (by assumption) ?_); conv => whnf)
                  | ((with_reducible refine needm_of ?_ ?_); (· first | (rw [hxl, hzl]; rfl) | (rw [hxl]; rfl)); conv => whnf)
                  | ((with_reducible refine forceL_to (whole_of ?_) ?_); (· rw [hxl]; rfl); conv => whnf)
                  | ((with_reducible refine forceL_to (store_all ?_) ?_); (· first | rw [hxl, hzl] | rfl); conv => whnf)
                  | ((with_reducible apply optm_of); (· first | exact g1 | exact g2 | exact g3 | exact g4 | exact g5 | exact g6); conv => whnf)
                  | fail)
                exact keepOf (v₀ := .a (.bool true)) [.cells [.int .i64 room, .slc 1 0 M.length cap1] 57 false, .cells cs1' 61 mk1, .cells [.int .i64 room, .slc 4 0 M.length cap2'] 47 false, .cells cs2 69 mk2, .cells cs2' 69 false] [0, 1, 2, 3, 5] rfl ⟨rfl, ren_pl q1 _ _ _, rfl, ren_pl h2 _ _ _, ren_pl q2 _ _ _, trivial⟩ (by simp [nodupb, baseb, Ob.okb, frmOk, V.okb, A.okb, h2.2, q1.2, q2.2] <;> decide) (hKc M M.length cap1 cap2' cs1' cs2' false rfl hMr ⟨y1', e1', c1'⟩ ⟨y2', e2', c2'⟩)
              · skip
                obtain rfl : x = x' := by
                  rw [hx] at hx'; injection hx'
                rw [← hM] at e1' c1' ⊢
                have q1 := Pl.fls e1'
                conv => whnf
                repeat' (first
                  | rw [← hz3]
                  | rw [hrz]
                  | rw [Nat.zero_mul Try.prog.types[69].size]
                  | ((with_reducible refine regx_of ?_ ?_); (· decide +kernel); conv => whnf)
                  | ((with_reducible refine growx_pre ?_ ?_); (· exact ⟨_, rfl⟩); conv => whnf)
                  | ((with_reducible refine needm_of ?_ ?_); (· first | assumption | exact decide_eq_true (by omega) | exact mkOK_of (by decide) | decide +kernel | (refine decide_eq_true ?_; simp (disch := omega) only [i64w]; omega)); conv => whnf)
                  | ((with_reducible refine condm_pos ?_ ?_); (· assumption); conv => whnf)
                  | ((with_reducible refine condm_neg ?_ ?_); (· assumption); conv => whnf)
                  | ((with_reducible refine forceL_fv (by assumption) ?_); conv => whnf)
                  | ((with_reducible refine forceL_rfv (by assumption) ?_); conv => whnf)
                  | ((with_reducible refine forceNm_of ?_); conv => whnf)
                  | ((with_reducible refine needm_of (fv_lenL (by assumption) (by assumption)) ?_); conv => whnf)
                  | ((with_reducible refine optm_var (fv_strL (by assumption) (by assumption)) (fun s hs => ?_)); conv => whnf)
                  | ((with_reducible refine forceA_of ?_); conv => whnf)
                  | ((with_reducible refine forceL_pl (by assumption) ?_); conv => whnf)
                  | ((with_reducible refine forceL_rpl (by assumption) ?_); conv => whnf)
                  | ((with_reducible refine needm_of ?_ ?_); (· first | (rw [hxl, hzl]; rfl) | (rw [hxl]; rfl)); conv => whnf)
                  | ((with_reducible refine forceL_to (whole_of ?_) ?_); (· rw [hxl]; rfl); conv => whnf)
                  | ((with_reducible refine forceL_to (store_all ?_) ?_); (· first | rw [hxl, hzl] | rfl); conv => whnf)
                  | ((with_reducible apply optm_of); (· first | exact g1 | exact g2 | exact g3 | exact g4 | exact g5 | exact g6); conv => whnf)
                  | fail)
                exact keepOf (v₀ := .a (.bool true)) [.cells [.int .i64 room, .slc 5 0 M.length cap1'] 57 false, .cells cs1 61 mk1, .cells [.int .i64 room, .slc 4 0 M.length cap2'] 47 false, .cells cs2 69 mk2, .cells cs2' 69 false, .cells cs1' 61 false] [0, 1, 2, 3, 5, 6] rfl ⟨rfl, ren_pl h1 _ _ _, rfl, ren_pl h2 _ _ _, ren_pl q2 _ _ _, ren_pl q1 _ _ _, trivial⟩ (by simp [nodupb, baseb, Ob.okb, frmOk, V.okb, A.okb, h1.2, h2.2, q1.2, q2.2] <;> decide) (hKd M M.length cap1' cap2' cs1' cs2' false rfl hMr ⟨y1', e1', c1'⟩ ⟨y2', e2', c2'⟩)
          ·
            conv => whnf
            repeat' (first
              | rw [← hz3]
              | rw [hrz]
              | rw [Nat.zero_mul Try.prog.types[69].size]
              | ((with_reducible refine regx_of ?_ ?_); (· decide +kernel); conv => whnf)
              | ((with_reducible refine growx_pre ?_ ?_); (· exact ⟨_, rfl⟩); conv => whnf)
              | ((with_reducible refine needm_of ?_ ?_); (· first | assumption | exact decide_eq_true (by omega) | exact mkOK_of (by decide) | decide +kernel | (refine decide_eq_true ?_; simp (disch := omega) only [i64w]; omega)); conv => whnf)
              | ((with_reducible refine condm_pos ?_ ?_); (· assumption); conv => whnf)
              | ((with_reducible refine condm_neg ?_ ?_); (· assumption); conv => whnf)
              | ((with_reducible refine forceL_fv (by assumption) ?_); conv => whnf)
              | ((with_reducible refine forceL_rfv (by assumption) ?_); conv => whnf)
              | ((with_reducible refine forceNm_of ?_); conv => whnf)
              | ((with_reducible refine needm_of (fv_lenL (by assumption) (by assumption)) ?_); conv => whnf)
              | ((with_reducible refine optm_var (fv_strL (by assumption) (by assumption)) (fun s hs => ?_)); conv => whnf)
              | ((with_reducible refine forceA_of ?_); conv => whnf)
              | ((with_reducible refine forceL_pl (by assumption) ?_); conv => whnf)
              | ((with_reducible refine forceL_rpl (by assumption) ?_); conv => whnf)
              | ((with_reducible refine needm_of ?_ ?_); (· first | (rw [hxl, hzl]; rfl) | (rw [hxl]; rfl)); conv => whnf)
              | ((with_reducible refine forceL_to (whole_of ?_) ?_); (· rw [hxl]; rfl); conv => whnf)
              | ((with_reducible refine forceL_to (store_all ?_) ?_); (· first | rw [hxl, hzl] | rfl); conv => whnf)
              | ((with_reducible apply optm_of); (· first | exact g1 | exact g2 | exact g3 | exact g4 | exact g5 | exact g6); conv => whnf)
              | fail)
            refine condm_of (fun k5 => ?_) (fun k5 => ?_)
            ·
              conv => whnf
              repeat' (first
                | rw [← hz3]
                | rw [hrz]
                | rw [Nat.zero_mul Try.prog.types[69].size]
                | ((with_reducible refine regx_of ?_ ?_); (· decide +kernel); conv => whnf)
                | ((with_reducible refine growx_pre ?_ ?_); (· exact ⟨_, rfl⟩); conv => whnf)
                | ((with_reducible refine needm_of ?_ ?_); (· first | assumption | exact decide_eq_true (by omega) | exact mkOK_of (by decide) | decide +kernel | (refine decide_eq_true ?_; simp (disch := omega) only [i64w]; omega)); conv => whnf)
                | ((with_reducible refine condm_pos ?_ ?_); (· assumption); conv => whnf)
                | ((with_reducible refine condm_neg ?_ ?_); (· assumption); conv => whnf)
                | ((with_reducible refine forceL_fv (by assumption) ?_); conv => whnf)
                | ((with_reducible refine forceL_rfv (by assumption) ?_); conv => whnf)
                | ((with_reducible refine forceNm_of ?_); conv => whnf)
                | ((with_reducible refine needm_of (fv_lenL (by assumption) (by assumption)) ?_); conv => whnf)
                | ((with_reducible refine optm_var (fv_strL (by assumption) (by assumption)) (fun s hs => ?_)); conv => whnf)
                | ((with_reducible refine forceA_of ?_); conv => whnf)
                | ((with_reducible refine forceL_pl (by assumption) ?_); conv => whnf)
                | ((with_reducible refine forceL_rpl (by assumption) ?_); conv => whnf)
                | ((with_reducible refine needm_of ?_ ?_); (· first | (rw [hxl, hzl]; rfl) | (rw [hxl]; rfl)); conv => whnf)
                | ((with_reducible refine forceL_to (whole_of ?_) ?_); (· rw [hxl]; rfl); conv => whnf)
                | ((with_reducible refine forceL_to (store_all ?_) ?_); (· first | rw [hxl, hzl] | rfl); conv => whnf)
                | ((with_reducible apply optm_of); (· first | exact g1 | exact g2 | exact g3 | exact g4 | exact g5 | exact g6); conv => whnf)
                | fail)
              refine Go.Eng.Fn.frame [2, 3] (by rfl) (by exact ⟨rfl, ren_pl h2 _ _ _, trivial⟩) (by simp [nodupb, V.okb, A.okb, Ob.okb, h2.2] <;> decide) (turn33 room i j L y2 cs2 cap2 mk2 e2 hL (fun h => ?_) (fun xi xj hxi hxj h h' y2' cs2' cap2' e2' c2' => ?_))
              ·
                conv => whnf
                repeat' (first
                  | rw [← hz3]
                  | rw [hrz]
                  | rw [Nat.zero_mul Try.prog.types[69].size]
                  | ((with_reducible refine regx_of ?_ ?_); (· decide +kernel); conv => whnf)
                  | ((with_reducible refine growx_pre ?_ ?_); (· exact ⟨_, rfl⟩); conv => whnf)
                  | ((with_reducible refine needm_of ?_ ?_); (· first | assumption | exact decide_eq_true (by omega) | exact mkOK_of (by decide) | decide +kernel | (refine decide_eq_true ?_; simp (disch := omega) only [i64w]; omega)); conv => whnf)
                  | ((with_reducible refine condm_pos ?_ ?_); (· assumption); conv => whnf)
                  | ((with_reducible refine condm_neg ?_ ?_); (· assumption); conv => whnf)
                  | ((with_reducible refine forceL_fv (by assumption) ?_); conv => whnf)
                  | ((with_reducible refine forceL_rfv (by assumption) ?_); conv => whnf)
                  | ((with_reducible refine forceNm_of ?_); conv => whnf)
                  | ((with_reducible refine needm_of (fv_lenL (by assumption) (by assumption)) ?_); conv => whnf)
                  | ((with_reducible refine optm_var (fv_strL (by assumption) (by assumption)) (fun s hs => ?_)); conv => whnf)
                  | ((with_reducible refine forceA_of ?_); conv => whnf)
                  | ((with_reducible refine forceL_pl (by assumption) ?_); conv => whnf)
                  | ((with_reducible refine forceL_rpl (by assumption) ?_); conv => whnf)
                  | ((with_reducible refine needm_of ?_ ?_); (· first | (rw [hxl, hzl]; rfl) | (rw [hxl]; rfl)); conv => whnf)
                  | ((with_reducible refine forceL_to (whole_of ?_) ?_); (· rw [hxl]; rfl); conv => whnf)
                  | ((with_reducible refine forceL_to (store_all ?_) ?_); (· first | rw [hxl, hzl] | rfl); conv => whnf)
                  | ((with_reducible apply optm_of); (· first | exact g1 | exact g2 | exact g3 | exact g4 | exact g5 | exact g6); conv => whnf)
                  | fail)
                refine Go.Eng.Fn.frame [0, 1] (by rfl) (by exact ⟨rfl, ren_pl h1 _ _ _, trivial⟩) (by simp [nodupb, V.okb, A.okb, Ob.okb, h1.2] <;> decide) (turn17 room i j L y1 cs1 cap1 mk1 e1 c1 hL (fun _ => ?_) (fun xi xj hxi hxj h1' h2' cs1' e1' => absurd ⟨h1', h2'⟩ h))
                conv => whnf
                repeat' (first
                  | rw [← hz3]
                  | rw [hrz]
                  | rw [Nat.zero_mul Try.prog.types[69].size]
                  | ((with_reducible refine regx_of ?_ ?_); (· decide +kernel); conv => whnf)
                  | ((with_reducible refine growx_pre ?_ ?_); (· exact ⟨_, rfl⟩); conv => whnf)
                  | ((with_reducible refine needm_of ?_ ?_); (· first | assumption | exact decide_eq_true (by omega) | exact mkOK_of (by decide) | decide +kernel | (refine decide_eq_true ?_; simp (disch := omega) only [i64w]; omega)); conv => whnf)
                  | ((with_reducible refine condm_pos ?_ ?_); (· assumption); conv => whnf)
                  | ((with_reducible refine condm_neg ?_ ?_); (· assumption); conv => whnf)
                  | ((with_reducible refine forceL_fv (by assumption) ?_); conv => whnf)
                  | ((with_reducible refine forceL_rfv (by assumption) ?_); conv => whnf)
                  | ((with_reducible refine forceNm_of ?_); conv => whnf)
                  | ((with_reducible refine needm_of (fv_lenL (by assumption) (by assumption)) ?_); conv => whnf)
                  | ((with_reducible refine optm_var (fv_strL (by assumption) (by assumption)) (fun s hs => ?_)); conv => whnf)
                  | ((with_reducible refine forceA_of ?_); conv => whnf)
                  | ((with_reducible refine forceL_pl (by assumption) ?_); conv => whnf)
                  | ((with_reducible refine forceL_rpl (by assumption) ?_); conv => whnf)
                  | ((with_reducible refine needm_of ?_ ?_); (· first | (rw [hxl, hzl]; rfl) | (rw [hxl]; rfl)); conv => whnf)
                  | ((with_reducible refine forceL_to (whole_of ?_) ?_); (· rw [hxl]; rfl); conv => whnf)
                  | ((with_reducible refine forceL_to (store_all ?_) ?_); (· first | rw [hxl, hzl] | rfl); conv => whnf)
                  | ((with_reducible apply optm_of); (· first | exact g1 | exact g2 | exact g3 | exact g4 | exact g5 | exact g6); conv => whnf)
                  | fail)
                exact keepOf (v₀ := .a (.bool true)) [.cells [.int .i64 room, .slc 1 0 L.length cap1] 57 false, .cells cs1 61 mk1, .cells [.int .i64 room, .slc 3 0 L.length cap2] 47 false, .cells cs2 69 mk2] [0, 1, 2, 3] rfl ⟨rfl, ren_pl h1 _ _ _, rfl, ren_pl h2 _ _ _, trivial⟩ (by simp [nodupb, baseb, Ob.okb, frmOk, V.okb, A.okb, h1.2, h2.2] <;> decide) (hKa L L.length cap1 cap2 cs1 cs2 rfl hr ⟨y1, e1, c1⟩ ⟨y2, e2, c2⟩)
              · skip
                obtain ⟨M, hM⟩ : ∃ M, M = (L.set i.toNat xj).set j.toNat xi := ⟨_, rfl⟩
                rw [← hM] at e2'
                have hMl : M.length = L.length := by rw [hM, List.length_set, List.length_set]
                have hMr : M.length ≤ room := by omega
                have q2 := Pl.fls e2'
                conv => whnf
                repeat' (first
                  | rw [← hz3]
                  | rw [hrz]
                  | rw [Nat.zero_mul Try.prog.types[69].size]
                  | ((with_reducible refine regx_of ?_ ?_); (· decide +kernel); conv => whnf)
                  | ((with_reducible refine growx_pre ?_ ?_); (· exact ⟨_, rfl⟩); conv => whnf)
                  | ((with_reducible refine needm_of ?_ ?_); (· first | assumption | exact decide_eq_true (by omega) | exact mkOK_of (by decide) | decide +kernel | (refine decide_eq_true ?_; simp (disch := omega) only [i64w]; omega)); conv => whnf)
                  | ((with_reducible refine condm_pos ?_ ?_); (· assumption); conv => whnf)
                  | ((with_reducible refine condm_neg ?_ ?_); (· assumption); conv => whnf)
                  | ((with_reducible refine forceL_fv (by assumption) ?_); conv => whnf)
                  | ((with_reducible refine forceL_rfv (by assumption) ?_); conv => whnf)
                  | ((with_reducible refine forceNm_of ?_); conv => whnf)
                  | ((with_reducible refine needm_of (fv_lenL (by assumption) (by assumption)) ?_); conv => whnf)
                  | ((with_reducible refine optm_var (fv_strL (by assumption) (by assumption)) (fun s hs => ?_)); conv => whnf)
                  | ((with_reducible refine forceA_of ?_); conv => whnf)
                  | ((with_reducible refine forceL_pl (by assumption) ?_); conv => whnf)
                  | ((with_reducible refine forceL_rpl (by assumption) ?_); conv => whnf)
                  | ((with_reducible refine needm_of ?_ ?_); (· first | (rw [hxl, hzl]; rfl) | (rw [hxl]; rfl)); conv => whnf)
                  | ((with_reducible refine forceL_to (whole_of ?_) ?_); (· rw [hxl]; rfl); conv => whnf)
                  | ((with_reducible refine forceL_to (store_all ?_) ?_); (· first | rw [hxl, hzl] | rfl); conv => whnf)
                  | ((with_reducible apply optm_of); (· first | exact g1 | exact g2 | exact g3 | exact g4 | exact g5 | exact g6); conv => whnf)
                  | fail)
                refine Go.Eng.Fn.frame [0, 1] (by rfl) (by exact ⟨rfl, ren_pl h1 _ _ _, trivial⟩) (by simp [nodupb, V.okb, A.okb, Ob.okb, h1.2] <;> decide) (turn17 room i j L y1 cs1 cap1 mk1 e1 c1 hL (fun h2' => absurd ⟨h, h'⟩ h2') (fun xi' xj' hxi' hxj' _ _ cs1' e1' => ?_))
                obtain rfl : xi = xi' := by rw [hxi] at hxi'; injection hxi'
                obtain rfl : xj = xj' := by rw [hxj] at hxj'; injection hxj'
                rw [← hM] at e1'
                have q1 := Pl.fls e1'
                rw [← hMl] at c1 c2' ⊢
                conv => whnf
                repeat' (first
                  | rw [← hz3]
                  | rw [hrz]
                  | rw [Nat.zero_mul Try.prog.types[69].size]
                  | ((with_reducible refine regx_of ?_ ?_); (· decide +kernel); conv => whnf)
                  | ((with_reducible refine growx_pre ?_ ?_); (· exact ⟨_, rfl⟩); conv => whnf)
                  | ((with_reducible refine needm_of ?_ ?_); (· first | assumption | exact decide_eq_true (by omega) | exact mkOK_of (by decide) | decide +kernel | (refine decide_eq_true ?_; simp (disch := omega) only [i64w]; omega)); conv => whnf)
                  | ((with_reducible refine condm_pos ?_ ?_); (· assumption); conv => whnf)
                  | ((with_reducible refine condm_neg ?_ ?_); (· assumption); conv => whnf)
                  | ((with_reducible refine forceL_fv (by assumption) ?_); conv => whnf)
                  | ((with_reducible refine forceL_rfv (by assumption) ?_); conv => whnf)
                  | ((with_reducible refine forceNm_of ?_); conv => whnf)
                  | ((with_reducible refine needm_of (fv_lenL (by assumption) (by assumption)) ?_); conv => whnf)
                  | ((with_reducible refine optm_var (fv_strL (by assumption) (by assumption)) (fun s hs => ?_)); conv => whnf)
                  | ((with_reducible refine forceA_of ?_); conv => whnf)
                  | ((with_reducible refine forceL_pl (by assumption) ?_); conv => whnf)
                  | ((with_reducible refine forceL_rpl (by assumption) ?_); conv => whnf)
                  | ((with_reducible refine needm_of ?_ ?_); (· first | (rw [hxl, hzl]; rfl) | (rw [hxl]; rfl)); conv => whnf)
                  | ((with_reducible refine forceL_to (whole_of ?_) ?_); (· rw [hxl]; rfl); conv => whnf)
                  | ((with_reducible refine forceL_to (store_all ?_) ?_); (· first | rw [hxl, hzl] | rfl); conv => whnf)
                  | ((with_reducible apply optm_of); (· first | exact g1 | exact g2 | exact g3 | exact g4 | exact g5 | exact g6); conv => whnf)
                  | fail)
                exact keepOf (v₀ := .a (.bool true)) [.cells [.int .i64 room, .slc 1 0 M.length cap1] 57 false, .cells cs1' 61 mk1, .cells [.int .i64 room, .slc 4 0 M.length cap2'] 47 false, .cells cs2 69 mk2, .cells cs2' 69 false] [0, 1, 2, 3, 5] rfl ⟨rfl, ren_pl q1 _ _ _, rfl, ren_pl h2 _ _ _, ren_pl q2 _ _ _, trivial⟩ (by simp [nodupb, baseb, Ob.okb, frmOk, V.okb, A.okb, h2.2, q1.2, q2.2] <;> decide) (hKc M M.length cap1 cap2' cs1' cs2' false rfl hMr ⟨y1, e1', c1⟩ ⟨y2', e2', c2'⟩)
            ·
              conv => whnf
              repeat' (first
                | rw [← hz3]
                | rw [hrz]
                | rw [Nat.zero_mul Try.prog.types[69].size]
                | ((with_reducible refine regx_of ?_ ?_); (· decide +kernel); conv => whnf)
                | ((with_reducible refine growx_pre ?_ ?_); (· exact ⟨_, rfl⟩); conv => whnf)
                | ((with_reducible refine needm_of ?_ ?_); (· first | assumption | exact decide_eq_true (by omega) | exact mkOK_of (by decide) | decide +kernel | (refine decide_eq_true ?_; simp (disch := omega) only [i64w]; omega)); conv => whnf)
                | ((with_reducible refine condm_pos ?_ ?_); (· assumption); conv => whnf)
                | ((with_reducible refine condm_neg ?_ ?_); (· assumption); conv => whnf)
                | ((with_reducible refine forceL_fv (by assumption) ?_); conv => whnf)
                | ((with_reducible refine forceL_rfv (by assumption) ?_); conv => whnf)
                | ((with_reducible refine forceNm_of ?_); conv => whnf)
                | ((with_reducible refine needm_of (fv_lenL (by assumption) (by assumption)) ?_); conv => whnf)
                | ((with_reducible refine optm_var (fv_strL (by assumption) (by assumption)) (fun s hs => ?_)); conv => whnf)
                | ((with_reducible refine forceA_of ?_); conv => whnf)
                | ((with_reducible refine forceL_pl (by assumption) ?_); conv => whnf)
                | ((with_reducible refine forceL_rpl (by assumption) ?_); conv => whnf)
                | ((with_reducible refine needm_of ?_ ?_); (· first | (rw [hxl, hzl]; rfl) | (rw [hxl]; rfl)); conv => whnf)
                | ((with_reducible refine forceL_to (whole_of ?_) ?_); (· rw [hxl]; rfl); conv => whnf)
                | ((with_reducible refine forceL_to (store_all ?_) ?_); (· first | rw [hxl, hzl] | rfl); conv => whnf)
                | ((with_reducible apply optm_of); (· first | exact g1 | exact g2 | exact g3 | exact g4 | exact g5 | exact g6); conv => whnf)
                | fail)
              refine condm_of (fun k6 => ?_) (fun k6 => ?_)
              ·
                conv => whnf
                repeat' (first
                  | rw [← hz3]
                  | rw [hrz]
                  | rw [Nat.zero_mul Try.prog.types[69].size]
                  | ((with_reducible refine regx_of ?_ ?_); (· decide +kernel); conv => whnf)
                  | ((with_reducible refine growx_pre ?_ ?_); (· exact ⟨_, rfl⟩); conv => whnf)
                  | ((with_reducible refine needm_of ?_ ?_); (· first | assumption | exact decide_eq_true (by omega) | exact mkOK_of (by decide) | decide +kernel | (refine decide_eq_true ?_; simp (disch := omega) only [i64w]; omega)); conv => whnf)
                  | ((with_reducible refine condm_pos ?_ ?_); (· assumption); conv => whnf)
                  | ((with_reducible refine condm_neg ?_ ?_); (· assumption); conv => whnf)
                  | ((with_reducible refine forceL_fv (by assumption) ?_); conv => whnf)
                  | ((with_reducible refine forceL_rfv (by assumption) ?_); conv => whnf)
                  | ((with_reducible refine forceNm_of ?_); conv => whnf)
                  | ((with_reducible refine needm_of (fv_lenL (by assumption) (by assumption)) ?_); conv => whnf)
                  | ((with_reducible refine optm_var (fv_strL (by assumption) (by assumption)) (fun s hs => ?_)); conv => whnf)
                  | ((with_reducible refine forceA_of ?_); conv => whnf)
                  | ((with_reducible refine forceL_pl (by assumption) ?_); conv => whnf)
                  | ((with_reducible refine forceL_rpl (by assumption) ?_); conv => whnf)
                  | ((with_reducible refine needm_of ?_ ?_); (· first | (rw [hxl, hzl]; rfl) | (rw [hxl]; rfl)); conv => whnf)
                  | ((with_reducible refine forceL_to (whole_of ?_) ?_); (· rw [hxl]; rfl); conv => whnf)
                  | ((with_reducible refine forceL_to (store_all ?_) ?_); (· first | rw [hxl, hzl] | rfl); conv => whnf)
                  | ((with_reducible apply optm_of); (· first | exact g1 | exact g2 | exact g3 | exact g4 | exact g5 | exact g6); conv => whnf)
                  | fail)
                refine Go.Eng.Fn.frame [2, 3] (by rfl) (by exact ⟨rfl, ren_pl h2 _ _ _, trivial⟩) (by simp [nodupb, V.okb, A.okb, Ob.okb, h2.2] <;> decide) (cut34 room f L y2 cs2 cap2 mk2 e2 hL (fun y2' cs2' cap2' mk' e2' c2' => ?_))
                obtain ⟨M, hM⟩ : ∃ M, M = L.filter (fun x => !hit f x) := ⟨_, rfl⟩
                rw [← hM] at e2' c2' ⊢
                have hMr : M.length ≤ room := by
                  have : M.length ≤ L.length := by rw [hM]; exact List.length_filter_le _ _
                  omega
                have q2 := Pl.fls e2'
                conv => whnf
                repeat' (first
                  | rw [← hz3]
                  | rw [hrz]
                  | rw [Nat.zero_mul Try.prog.types[69].size]
                  | ((with_reducible refine regx_of ?_ ?_); (· decide +kernel); conv => whnf)
                  | ((with_reducible refine growx_pre ?_ ?_); (· exact ⟨_, rfl⟩); conv => whnf)
                  | ((with_reducible refine needm_of ?_ ?_); (· first | assumption | exact decide_eq_true (by omega) | exact mkOK_of (by decide) | decide +kernel | (refine decide_eq_true ?_; simp (disch := omega) only [i64w]; omega)); conv => whnf)
                  | ((with_reducible refine condm_pos ?_ ?_); (· assumption); conv => whnf)
                  | ((with_reducible refine condm_neg ?_ ?_); (· assumption); conv => whnf)
                  | ((with_reducible refine forceL_fv (by assumption) ?_); conv => whnf)
                  | ((with_reducible refine forceL_rfv (by assumption) ?_); conv => whnf)
                  | ((with_reducible refine forceNm_of ?_); conv => whnf)
                  | ((with_reducible refine needm_of (fv_lenL (by assumption) (by assumption)) ?_); conv => whnf)
                  | ((with_reducible refine optm_var (fv_strL (by assumption) (by assumption)) (fun s hs => ?_)); conv => whnf)
                  | ((with_reducible refine forceA_of ?_); conv => whnf)
                  | ((with_reducible refine forceL_pl (by assumption) ?_); conv => whnf)
                  | ((with_reducible refine forceL_rpl (by assumption) ?_); conv => whnf)
                  | ((with_reducible refine needm_of ?_ ?_); (· first | (rw [hxl, hzl]; rfl) | (rw [hxl]; rfl)); conv => whnf)
                  | ((with_reducible refine forceL_to (whole_of ?_) ?_); (· rw [hxl]; rfl); conv => whnf)
                  | ((with_reducible refine forceL_to (store_all ?_) ?_); (· first | rw [hxl, hzl] | rfl); conv => whnf)
                  | ((with_reducible apply optm_of); (· first | exact g1 | exact g2 | exact g3 | exact g4 | exact g5 | exact g6); conv => whnf)
                  | fail)
                refine Go.Eng.Fn.frame [0, 1] (by rfl) (by exact ⟨rfl, ren_pl h1 _ _ _, trivial⟩) (by simp [nodupb, V.okb, A.okb, Ob.okb, h1.2] <;> decide) (cut13 room f L y1 cs1 cap1 mk1 e1 c1 hL (fun y1' cs1' e1' c1' => ?_))
                rw [← hM] at e1' c1' ⊢
                have q1 := Pl.fls e1'
                have c9 : (((L.length - M.length : Nat) : Int) == ((L.length - M.length : Nat) : Int)) = true := by simp
                conv => whnf
                repeat' (first
                  | rw [← hz3]
                  | rw [hrz]
                  | rw [Nat.zero_mul Try.prog.types[69].size]
                  | ((with_reducible refine regx_of ?_ ?_); (· decide +kernel); conv => whnf)
                  | ((with_reducible refine growx_pre ?_ ?_); (· exact ⟨_, rfl⟩); conv => whnf)
                  | ((with_reducible refine needm_of ?_ ?_); (· first | assumption | exact decide_eq_true (by omega) | exact mkOK_of (by decide) | decide +kernel | (refine decide_eq_true ?_; simp (disch := omega) only [i64w]; omega)); conv => whnf)
                  | ((with_reducible refine condm_pos ?_ ?_); (· assumption); conv => whnf)
                  | ((with_reducible refine condm_neg ?_ ?_); (· assumption); conv => whnf)
                  | ((with_reducible refine forceL_fv (by assumption) ?_); conv => whnf)
                  | ((with_reducible refine forceL_rfv (by assumption) ?_); conv => whnf)
                  | ((with_reducible refine forceNm_of ?_); conv => whnf)
                  | ((with_reducible refine needm_of (fv_lenL (by assumption) (by assumption)) ?_); conv => whnf)
                  | ((with_reducible refine optm_var (fv_strL (by assumption) (by assumption)) (fun s hs => ?_)); conv => whnf)
                  | ((with_reducible refine forceA_of ?_); conv => whnf)
                  | ((with_reducible refine forceL_pl (by assumption) ?_); conv => whnf)
                  | ((with_reducible refine forceL_rpl (by assumption) ?_); conv => whnf)
                  | ((with_reducible refine needm_of ?_ ?_); (· first | (rw [hxl, hzl]; rfl) | (rw [hxl]; rfl)); conv => whnf)
                  | ((with_reducible refine forceL_to (whole_of ?_) ?_); (· rw [hxl]; rfl); conv => whnf)
                  | ((with_reducible refine forceL_to (store_all ?_) ?_); (· first | rw [hxl, hzl] | rfl); conv => whnf)
                  | ((with_reducible apply optm_of); (· first | exact g1 | exact g2 | exact g3 | exact g4 | exact g5 | exact g6); conv => whnf)
                  | fail)
                rw [c9]
                exact keepOf (v₀ := .a (.bool true)) [.cells [.int .i64 room, .slc 1 0 M.length cap1] 57 false, .cells cs1' 61 mk1, .cells [.int .i64 room, .slc 4 0 M.length cap2'] 47 false, .cells cs2 69 mk2, .cells cs2' 69 mk'] [0, 1, 2, 3, 5] rfl ⟨rfl, ren_pl q1 _ _ _, rfl, ren_pl h2 _ _ _, ren_pl q2 _ _ _, trivial⟩ (by simp [nodupb, baseb, Ob.okb, frmOk, V.okb, A.okb, h2.2, q1.2, q2.2] <;> decide) (hKc M M.length cap1 cap2' cs1' cs2' mk' rfl hMr ⟨y1', e1', c1'⟩ ⟨y2', e2', c2'⟩)
              ·
                conv => whnf
                repeat' (first
                  | rw [← hz3]
                  | rw [hrz]
                  | rw [Nat.zero_mul Try.prog.types[69].size]
                  | ((with_reducible refine regx_of ?_ ?_); (· decide +kernel); conv => whnf)
                  | ((with_reducible refine growx_pre ?_ ?_); (· exact ⟨_, rfl⟩); conv => whnf)
                  | ((with_reducible refine needm_of ?_ ?_); (· first | assumption | exact decide_eq_true (by omega) | exact mkOK_of (by decide) | decide +kernel | (refine decide_eq_true ?_; simp (disch := omega) only [i64w]; omega)); conv => whnf)
                  | ((with_reducible refine condm_pos ?_ ?_); (· assumption); conv => whnf)
                  | ((with_reducible refine condm_neg ?_ ?_); (· assumption); conv => whnf)
                  | ((with_reducible refine forceL_fv (by assumption) ?_); conv => whnf)
                  | ((with_reducible refine forceL_rfv (by assumption) ?_); conv => whnf)
                  | ((with_reducible refine forceNm_of ?_); conv => whnf)
                  | ((with_reducible refine needm_of (fv_lenL (by assumption) (by assumption)) ?_); conv => whnf)
                  | ((with_reducible refine optm_var (fv_strL (by assumption) (by assumption)) (fun s hs => ?_)); conv => whnf)
                  | ((with_reducible refine forceA_of ?_); conv => whnf)
                  | ((with_reducible refine forceL_pl (by assumption) ?_); conv => whnf)
                  | ((with_reducible refine forceL_rpl (by assumption) ?_); conv => whnf)
                  | ((with_reducible refine needm_of ?_ ?_); (· first | (rw [hxl, hzl]; rfl) | (rw [hxl]; rfl)); conv => whnf)
                  | ((with_reducible refine forceL_to (whole_of ?_) ?_); (· rw [hxl]; rfl); conv => whnf)
                  | ((with_reducible refine forceL_to (store_all ?_) ?_); (· first | rw [hxl, hzl] | rfl); conv => whnf)
                  | ((with_reducible apply optm_of); (· first | exact g1 | exact g2 | exact g3 | exact g4 | exact g5 | exact g6); conv => whnf)
                  | fail)
                refine Go.Eng.Fn.frame [0, 1, 2, 3] (by rfl) (by exact ⟨rfl, ren_pl h1 _ _ _, rfl, ren_pl h2 _ _ _, trivial⟩) (by simp [nodupb, V.okb, A.okb, Ob.okb, h1.2, h2.2] <;> decide) (all20 room L L.length cap1 cap2 cs1 cs2 mk1 mk2 rfl hL N1' N2' ?_)
                conv => whnf
                repeat' (first
                  | rw [← hz3]
                  | rw [hrz]
                  | rw [Nat.zero_mul Try.prog.types[69].size]
                  | ((with_reducible refine regx_of ?_ ?_); (· decide +kernel); conv => whnf)
                  | ((with_reducible refine growx_pre ?_ ?_); (· exact ⟨_, rfl⟩); conv => whnf)
                  | ((with_reducible refine needm_of ?_ ?_); (· first | assumption | exact decide_eq_true (by omega) | exact mkOK_of (by decide) | decide +kernel | (refine decide_eq_true ?_; simp (disch := omega) only [i64w]; omega)); conv => whnf)
                  | ((with_reducible refine condm_pos ?_ ?_); (· assumption); conv => whnf)
                  | ((with_reducible refine condm_neg ?_ ?_); (· assumption); conv => whnf)
                  | ((with_reducible refine forceL_fv (by assumption) ?_); conv => whnf)
                  | ((with_reducible refine forceL_rfv (by assumption) ?_); conv => whnf)
                  | ((with_reducible refine forceNm_of ?_); conv => whnf)
                  | ((with_reducible refine needm_of (fv_lenL (by assumption) (by assumption)) ?_); conv => whnf)
                  | ((with_reducible refine optm_var (fv_strL (by assumption) (by assumption)) (fun s hs => ?_)); conv => whnf)
                  | ((with_reducible refine forceA_of ?_); conv => whnf)
                  | ((with_reducible refine forceL_pl (by assumption) ?_); conv => whnf)
                  | ((with_reducible refine forceL_rpl (by assumption) ?_); conv => whnf)
                  | ((with_reducible refine needm_of ?_ ?_); (· first | (rw [hxl, hzl]; rfl) | (rw [hxl]; rfl)); conv => whnf)
                  | ((with_reducible refine forceL_to (whole_of ?_) ?_); (· rw [hxl]; rfl); conv => whnf)
                  | ((with_reducible refine forceL_to (store_all ?_) ?_); (· first | rw [hxl, hzl] | rfl); conv => whnf)
                  | ((with_reducible apply optm_of); (· first | exact g1 | exact g2 | exact g3 | exact g4 | exact g5 | exact g6); conv => whnf)
                  | fail)
                exact keepOf (v₀ := .a (.bool true)) [.cells [.int .i64 room, .slc 1 0 L.length cap1] 57 false, .cells cs1 61 mk1, .cells [.int .i64 room, .slc 3 0 L.length cap2] 47 false, .cells cs2 69 mk2] [0, 1, 2, 3] rfl ⟨rfl, ren_pl h1 _ _ _, rfl, ren_pl h2 _ _ _, trivial⟩ (by simp [nodupb, baseb, Ob.okb, frmOk, V.okb, A.okb, h1.2, h2.2] <;> decide) (hKa L L.length cap1 cap2 cs1 cs2 rfl hr ⟨y1, e1, c1⟩ ⟨y2, e2, c2⟩)
end
end Go.Proofs.Ytkggpkgnkppceaa.LK
