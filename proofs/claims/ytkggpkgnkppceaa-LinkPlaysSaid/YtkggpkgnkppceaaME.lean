import Derived.Test.YtkggpkgnkppceaaMD
namespace Go.Proofs.Ytkggpkgnkppceaa.LK
open Go.Eng
set_option maxRecDepth 100000
theorem fls_get {cs : List A} {L : List Fl} (e : cs = fls L) {i o k : Nat} {x : Fl} {a : A} (h : L[i]? = some x) (ho : o = i * 3 + k) (hk : k < 3) (ha : x.row[k]? = some a) : cs[o]? = some a := by
  subst e ho
  have hi := (List.getElem?_eq_some_iff.1 h).1
  have hl : (fls (L.take i)).length = i * 3 := by rw [fls_length, List.length_take]; omega
  rw [fls_split h, List.getElem?_append_right (by omega), hl, Nat.add_sub_cancel_left, List.getElem?_append_left (by show k < 3; exact hk)]
  exact ha
section
variable {ro : Addr → A → Prop}
set_option maxHeartbeats 1000000 in
theorem cut34 (room : Int) (o : UInt8) (L y : List Fl) (cs : List A) (cap : Nat) (mk : Bool) (hcs : cs = fls (L ++ y)) (hL : L.length ≤ 1024) {K : V → Hp → Prop}
    (hK : ∀ y' cs' cap' mk', cs' = fls (L.filter (fun x => !hit o x) ++ y') → cap' = (L.filter (fun x => !hit o x)).length + y'.length → K (.a (.int .i64 ((L.length - (L.filter (fun x => !hit o x)).length : Nat) : Int))) [.cells [.int .i64 room, .slc 2 0 (L.filter (fun x => !hit o x)).length cap'] 47 false, .cells cs 69 mk, .cells cs' 69 mk']) :
    Go.Eng.Fn Try.prog ro 34 [.a (.ptr 0 0), .a (.int .u8 (o.toNat : Int))] [.cells [.int .i64 room, .slc 1 0 L.length cap] 47 false, .cells cs 69 mk] K := by
  have hp := Pl.fls hcs
  have hcl : cs.length = (L.length + y.length) * 3 := by rw [hcs, fls_length, List.length_append]
  obtain ⟨z3, hz3⟩ : ∃ z : List A, z = [.int .u8 0, .int .u8 0, .str { data := #[] }] := ⟨_, rfl⟩
  have hzp : Pl z3 := by rw [hz3]; exact ⟨fun _ => rfl, fun _ => rfl⟩
  have hzl : z3.length = 3 := by rw [hz3]; rfl
  have hrz : repl z3 (1 * Try.prog.types[69].size) = z3 := by rw [hz3]; rfl
  refine Go.Eng.Fn.weak ?_
  refine Go.Eng.Fn.of 2 (gOf []) rfl Try.func34 rfl (Nat.le_of_ble_eq_true rfl) ?_
  conv => whnf
  repeat' (first
    | ((with_reducible refine regx_of ?_ ?_); (· decide +kernel); conv => whnf)
    | ((with_reducible refine growx_pre ?_ ?_); (· exact ⟨_, rfl⟩); conv => whnf)
    | ((with_reducible refine needm_of ?_ ?_); (· first | assumption | exact decide_eq_true (by omega) | exact mkOK_of (by decide) | decide +kernel | (refine decide_eq_true ?_; simp (disch := omega) only [i64w]; omega)); conv => whnf)
    | ((with_reducible refine condm_pos ?_ ?_); (· assumption); conv => whnf)
    | ((with_reducible refine condm_neg ?_ ?_); (· assumption); conv => whnf)
    | ((with_reducible refine forceL_fv (by assumption) ?_); conv => whnf)
    | ((with_reducible refine forceL_rfv (by assumption) ?_); conv => whnf)
    | ((with_reducible refine forceNm_of ?_); conv => whnf)
    | ((with_reducible refine needm_of (fv_lenL (by assumption) (by assumption)) ?_); conv => whnf)
    | ((with_reducible refine optm_var (fv_strL (by assumption) (by assumption)) (fun s hs => ?_)); conv => whnf)
    | ((with_reducible refine forceA_of ?_); conv => whnf)
    | ((with_reducible refine forceL_pl (by assumption) ?_); conv => whnf)
    | ((with_reducible refine forceL_rpl (by assumption) ?_); conv => whnf)
    | fail)
  refine loopx_of (fun q F H => ∃ (k m c : Nat) (bk : Bool) (z : List Fl) (bs : List A), k ≤ L.length ∧ q = L.length - k ∧ bs = fls ((L.take k).filter (fun x => !hit o x) ++ z) ∧ c = m + z.length ∧ m = ((L.take k).filter (fun x => !hit o x)).length ∧ F = [(0, .a (.ptr 0 0)), (1, .a (.int .u8 (o.toNat : Int))), (5, .a (.slc 2 0 m c)), (6, .a (.int .i64 k))] ∧ H = [.cells [.int .i64 room, .slc 1 0 L.length cap] 47 false, .cells cs 69 mk, .cells bs 69 bk]) L.length ?_ ?_
  · refine Into.ghost 2 [(0, .a (.ptr 0 0)), (1, .a (.int .u8 (o.toNat : Int))), (5, .a (.slc 2 0 0 0)), (6, .a (.int .i64 (0 : Nat)))] [.cells [.int .i64 room, .slc 1 0 L.length cap] 47 false, .cells cs 69 mk, .cells [] 69 false] rfl ⟨rfl, rfl, rfl, rfl, trivial⟩ ⟨rfl, ung_pl hp.1 _ _ _, rfl, trivial⟩ (by simp [Ob.okb, frmOk, V.okb, A.okb, hp.2] <;> decide) ?_
    exact Into.weak [0, 1, 2] _ [.cells [.int .i64 room, .slc 1 0 L.length cap] 47 false, .cells cs 69 mk, .cells [] 69 false] ⟨0, 0, 0, false, [], [], Nat.zero_le _, rfl, by simp [fls_nil], rfl, by simp, rfl, rfl⟩ ⟨rfl, rfl, rfl, rfl, trivial⟩ ⟨rfl, ren_pl hp _ _ _, rfl, trivial⟩ (by simp [nodupb, baseb, Ob.okb, frmOk, V.okb, A.okb, hp.2] <;> decide)
  · rintro q F H ⟨k, m, c, bk, z, bs, hk, rfl, hbs, hc, hm, rfl, rfl⟩
    have hbp := Pl.fls hbs
    have hbl : bs.length = (m + z.length) * 3 := by rw [hbs, fls_length, List.length_append, hm]
    have hml : m ≤ k := by
      rw [hm]
      refine Nat.le_trans (List.length_filter_le _ _) ?_
      rw [List.length_take]; omega
    conv => whnf
    repeat' (first
      | ((with_reducible refine regx_of ?_ ?_); (· decide +kernel); conv => whnf)
      | ((with_reducible refine growx_pre ?_ ?_); (· exact ⟨_, rfl⟩); conv => whnf)
      | ((with_reducible refine needm_of ?_ ?_); (· first | assumption | exact decide_eq_true (by omega) | exact mkOK_of (by decide) | decide +kernel | (refine decide_eq_true ?_; simp (disch := omega) only [i64w]; omega)); conv => whnf)
      | ((with_reducible refine condm_pos ?_ ?_); (· assumption); conv => whnf)
      | ((with_reducible refine condm_neg ?_ ?_); (· assumption); conv => whnf)
      | ((with_reducible refine forceL_fv (by assumption) ?_); conv => whnf)
      | ((with_reducible refine forceL_rfv (by assumption) ?_); conv => whnf)
      | ((with_reducible refine forceNm_of ?_); conv => whnf)
      | ((with_reducible refine needm_of (fv_lenL (by assumption) (by assumption)) ?_); conv => whnf)
      | ((with_reducible refine optm_var (fv_strL (by assumption) (by assumption)) (fun s hs => ?_)); conv => whnf)
      | ((with_reducible refine forceA_of ?_); conv => whnf)
      | ((with_reducible refine forceL_pl (by assumption) ?_); conv => whnf)
      | ((with_reducible refine forceL_rpl (by assumption) ?_); conv => whnf)
      | fail)
    refine condm_of (fun h2 => ?_) (fun h2 => ?_)
    · have hkl : k < L.length := by have := of_decide_eq_true h2; omega
      have hw : IntKind.i64.wrap (↑k + 1) = ((k + 1 : Nat) : Int) := by rw [i64w (by omega) (by omega)]; rfl
      obtain ⟨v, hv⟩ : ∃ v, L[k]? = some v := ⟨_, List.getElem?_eq_getElem hkl⟩
      have hv' : (L ++ y)[k]? = some v := by rw [List.getElem?_append_left (by omega)]; exact hv
      have hstep := take_filter (p := fun x => !hit o x) hv
      have g0 : cs[0 + (k : Int).toNat * Try.prog.types[69].size + 0]? = some (.int .u8 (v.f.toNat : Int)) := fls_get hcs hv' (k := 0) (by rw [s69]; omega) (by decide) rfl
      have g1 : cs[0 + (k : Int).toNat * Try.prog.types[69].size + 1]? = some (.int .u8 (v.t.toNat : Int)) := fls_get hcs hv' (k := 1) (by rw [s69]; omega) (by decide) rfl
      have hb1 : decide (0 ≤ (k : Int) ∧ (k : Int) < (L.length : Int)) = true := decide_eq_true (by omega)
      have hr := fls_at hcs hv' (o := 0 + (k : Int).toNat * Try.prog.types[69].size) (m := 0 + (k : Int).toNat * Try.prog.types[69].size + Try.prog.types[69].size) (by rw [s69]; omega) (by rw [s69]; omega)
      have d0 : ((v.f.toNat : Int) != (o.toNat : Int)) = !(v.f == o) := by show (!((v.f.toNat : Int) == (o.toNat : Int))) = _; rw [beqI]
      have d1 : ((v.t.toNat : Int) != (o.toNat : Int)) = !(v.t == o) := by show (!((v.t.toNat : Int) == (o.toNat : Int))) = _; rw [beqI]
      obtain ⟨xr, hxr⟩ : ∃ xr, xr = v.row := ⟨_, rfl⟩
      rw [← hxr] at hr
      have hxp : Pl xr := by rw [hxr]; exact ⟨fun _ => rfl, fun _ => rfl⟩
      have hxl : xr.length = 3 := by rw [hxr]; rfl
      have hx1 : List.drop 0 (List.take (0 + 1 * Try.prog.types[69].size) xr) = xr := whole_of (by rw [hxl]; rfl)
      cases hf : v.f == o with
      | true =>
        rw [hf] at d0
        rw [if_neg (by simp [hit, hf]), List.append_nil] at hstep
        conv => whnf
        repeat' (first
          | rw [← hz3]
          | rw [hrz]
          | rw [Nat.zero_mul Try.prog.types[69].size]
          | ((with_reducible refine regx_of ?_ ?_); (· decide +kernel); conv => whnf)
          | ((with_reducible refine growx_pre ?_ ?_); (· exact ⟨_, rfl⟩); conv => whnf)
          | ((with_reducible refine needm_of ?_ ?_); (· first | assumption | exact decide_eq_true (by omega) | exact mkOK_of (by decide) | decide +kernel | (refine decide_eq_true ?_; simp (disch := omega) only [i64w]; omega)); conv => whnf)
          | ((with_reducible refine condm_pos ?_ ?_); (· assumption); conv => whnf)
          | ((with_reducible refine condm_neg ?_ ?_); (· assumption); conv => whnf)
          | ((with_reducible refine forceL_fv (by assumption) ?_); conv => whnf)
          | ((with_reducible refine forceL_rfv (by assumption) ?_); conv => whnf)
          | ((with_reducible refine forceNm_of ?_); conv => whnf)
          | ((with_reducible refine needm_of (fv_lenL (by assumption) (by assumption)) ?_); conv => whnf)
          | ((with_reducible refine optm_var (fv_strL (by assumption) (by assumption)) (fun s hs => ?_)); conv => whnf)
          | ((with_reducible refine forceA_of ?_); conv => whnf)
          | ((with_reducible refine forceL_pl (by assumption) ?_); conv => whnf)
          | ((with_reducible refine forceL_rpl (by assumption) ?_); conv => whnf)
          | ((with_reducible refine needm_of ?_ ?_); (· first | (rw [hxl, hzl]; rfl) | (rw [hxl]; rfl)); conv => whnf)
          | ((with_reducible refine forceL_to (whole_of ?_) ?_); (· rw [hxl]; rfl); conv => whnf)
          | ((with_reducible refine forceL_to (store_all ?_) ?_); (· first | rw [hxl, hzl] | rfl); conv => whnf)
          | ((with_reducible apply optm_of); (· first | exact g0 | exact g1); conv => whnf)
          | fail)
        exact ⟨L.length - (k + 1), by omega, Into.weak [0, 1, 2] _ [.cells [.int .i64 room, .slc 1 0 L.length cap] 47 false, .cells cs 69 mk, .cells bs 69 bk] ⟨k + 1, m, c, bk, z, bs, by omega, rfl, by rw [hstep]; exact hbs, hc, by rw [hstep]; exact hm, rfl, rfl⟩ ⟨rfl, rfl, rfl, congrArg (fun z => some (V.a (.int .i64 z))) hw, trivial⟩ ⟨rfl, ren_pl hp _ _ _, ren_pl hbp _ _ _, trivial⟩ (by simp [nodupb, baseb, Ob.okb, frmOk, V.okb, A.okb, hp.2, hbp.2] <;> decide)⟩
      | false =>
        rw [hf] at d0
        cases ht : v.t == o with
        | true =>
          rw [ht] at d1
          rw [if_neg (by simp [hit, ht]), List.append_nil] at hstep
          conv => whnf
          repeat' (first
            | rw [← hz3]
            | rw [hrz]
            | rw [Nat.zero_mul Try.prog.types[69].size]
            | ((with_reducible refine regx_of ?_ ?_); (· decide +kernel); conv => whnf)
            | ((with_reducible refine growx_pre ?_ ?_); (· exact ⟨_, rfl⟩); conv => whnf)
            | ((with_reducible refine needm_of ?_ ?_); (· first | assumption | exact decide_eq_true (by omega) | exact mkOK_of (by decide) | decide +kernel | (refine decide_eq_true ?_; simp (disch := omega) only [i64w]; omega)); conv => whnf)
            | ((with_reducible refine condm_pos ?_ ?_); (· assumption); conv => whnf)
            | ((with_reducible refine condm_neg ?_ ?_); (· assumption); conv => whnf)
            | ((with_reducible refine forceL_fv (by assumption) ?_); conv => whnf)
            | ((with_reducible refine forceL_rfv (by assumption) ?_); conv => whnf)
            | ((with_reducible refine forceNm_of ?_); conv => whnf)
            | ((with_reducible refine needm_of (fv_lenL (by assumption) (by assumption)) ?_); conv => whnf)
            | ((with_reducible refine optm_var (fv_strL (by assumption) (by assumption)) (fun s hs => ?_)); conv => whnf)
            | ((with_reducible refine forceA_of ?_); conv => whnf)
            | ((with_reducible refine forceL_pl (by assumption) ?_); conv => whnf)
            | ((with_reducible refine forceL_rpl (by assumption) ?_); conv => whnf)
            | ((with_reducible refine needm_of ?_ ?_); (· first | (rw [hxl, hzl]; rfl) | (rw [hxl]; rfl)); conv => whnf)
            | ((with_reducible refine forceL_to (whole_of ?_) ?_); (· rw [hxl]; rfl); conv => whnf)
            | ((with_reducible refine forceL_to (store_all ?_) ?_); (· first | rw [hxl, hzl] | rfl); conv => whnf)
            | ((with_reducible apply optm_of); (· first | exact g0 | exact g1); conv => whnf)
            | fail)
          exact ⟨L.length - (k + 1), by omega, Into.weak [0, 1, 2] _ [.cells [.int .i64 room, .slc 1 0 L.length cap] 47 false, .cells cs 69 mk, .cells bs 69 bk] ⟨k + 1, m, c, bk, z, bs, by omega, rfl, by rw [hstep]; exact hbs, hc, by rw [hstep]; exact hm, rfl, rfl⟩ ⟨rfl, rfl, rfl, congrArg (fun z => some (V.a (.int .i64 z))) hw, trivial⟩ ⟨rfl, ren_pl hp _ _ _, ren_pl hbp _ _ _, trivial⟩ (by simp [nodupb, baseb, Ob.okb, frmOk, V.okb, A.okb, hp.2, hbp.2] <;> decide)⟩
        | false =>
          rw [ht] at d1
          rw [if_pos (by simp [hit, hf, ht])] at hstep
          conv => whnf
          repeat' (first
            | rw [← hz3]
            | rw [hrz]
            | rw [Nat.zero_mul Try.prog.types[69].size]
            | ((with_reducible refine regx_of ?_ ?_); (· decide +kernel); conv => whnf)
            | ((with_reducible refine growx_pre ?_ ?_); (· exact ⟨_, rfl⟩); conv => whnf)
            | ((with_reducible refine needm_of ?_ ?_); (· first | assumption | exact decide_eq_true (by omega) | exact mkOK_of (by decide) | decide +kernel | (refine decide_eq_true ?_; simp (disch := omega) only [i64w]; omega)); conv => whnf)
            | ((with_reducible refine condm_pos ?_ ?_); (· assumption); conv => whnf)
            | ((with_reducible refine condm_neg ?_ ?_); (· assumption); conv => whnf)
            | ((with_reducible refine forceL_fv (by assumption) ?_); conv => whnf)
            | ((with_reducible refine forceL_rfv (by assumption) ?_); conv => whnf)
            | ((with_reducible refine forceNm_of ?_); conv => whnf)
            | ((with_reducible refine needm_of (fv_lenL (by assumption) (by assumption)) ?_); conv => whnf)
            | ((with_reducible refine optm_var (fv_strL (by assumption) (by assumption)) (fun s hs => ?_)); conv => whnf)
            | ((with_reducible refine forceA_of ?_); conv => whnf)
            | ((with_reducible refine forceL_pl (by assumption) ?_); conv => whnf)
            | ((with_reducible refine forceL_rpl (by assumption) ?_); conv => whnf)
            | ((with_reducible refine needm_of ?_ ?_); (· first | (rw [hxl, hzl]; rfl) | (rw [hxl]; rfl)); conv => whnf)
            | ((with_reducible refine forceL_to (whole_of ?_) ?_); (· rw [hxl]; rfl); conv => whnf)
            | ((with_reducible refine forceL_to (store_all ?_) ?_); (· first | rw [hxl, hzl] | rfl); conv => whnf)
            | ((with_reducible apply optm_of); (· first | exact g0 | exact g1); conv => whnf)
            | fail)
          refine needm_of (decide_eq_true (by rw [hcl, s69]; omega)) ?_
          conv => whnf
          refine forceL_to hr ?_
          conv => whnf
          repeat' (first
            | rw [← hz3]
            | rw [hrz]
            | rw [Nat.zero_mul Try.prog.types[69].size]
            | ((with_reducible refine regx_of ?_ ?_); (· decide +kernel); conv => whnf)
            | ((with_reducible refine growx_pre ?_ ?_); (· exact ⟨_, rfl⟩); conv => whnf)
            | ((with_reducible refine needm_of ?_ ?_); (· first | assumption | exact decide_eq_true (by omega) | exact mkOK_of (by decide) | decide +kernel | (refine decide_eq_true ?_; simp (disch := omega) only [i64w]; omega)); conv => whnf)
            | ((with_reducible refine condm_pos ?_ ?_); (· assumption); conv => whnf)
            | ((with_reducible refine condm_neg ?_ ?_); (· assumption); conv => whnf)
            | ((with_reducible refine forceL_fv (by assumption) ?_); conv => whnf)
            | ((with_reducible refine forceL_rfv (by assumption) ?_); conv => whnf)
            | ((with_reducible refine forceNm_of ?_); conv => whnf)
            | ((with_reducible refine needm_of (fv_lenL (by assumption) (by assumption)) ?_); conv => whnf)
            | ((with_reducible refine optm_var (fv_strL (by assumption) (by assumption)) (fun s hs => ?_)); conv => whnf)
            | ((with_reducible refine forceA_of ?_); conv => whnf)
            | ((with_reducible refine forceL_pl (by assumption) ?_); conv => whnf)
            | ((with_reducible refine forceL_rpl (by assumption) ?_); conv => whnf)
            | ((with_reducible refine needm_of ?_ ?_); (· first | (rw [hxl, hzl]; rfl) | (rw [hxl]; rfl)); conv => whnf)
            | ((with_reducible refine forceL_to (whole_of ?_) ?_); (· rw [hxl]; rfl); conv => whnf)
            | ((with_reducible refine forceL_to (store_all ?_) ?_); (· first | rw [hxl, hzl] | rfl); conv => whnf)
            | ((with_reducible apply optm_of); (· first | exact g0 | exact g1); conv => whnf)
            | fail)
          rw [hx1]
          refine condm_of (fun hc => ?_) (fun hc => ?_)
          · have hc' := of_decide_eq_true hc
            conv => whnf
            refine needm_of (decide_eq_true (by rw [s69, hxl, hbl]; omega)) ?_
            conv => whnf
            repeat' (first
              | rw [← hz3]
              | rw [hrz]
              | rw [Nat.zero_mul Try.prog.types[69].size]
              | ((with_reducible refine regx_of ?_ ?_); (· decide +kernel); conv => whnf)
              | ((with_reducible refine growx_pre ?_ ?_); (· exact ⟨_, rfl⟩); conv => whnf)
              | ((with_reducible refine needm_of ?_ ?_); (· first | assumption | exact decide_eq_true (by omega) | exact mkOK_of (by decide) | decide +kernel | (refine decide_eq_true ?_; simp (disch := omega) only [i64w]; omega)); conv => whnf)
              | ((with_reducible refine condm_pos ?_ ?_); (· assumption); conv => whnf)
              | ((with_reducible refine condm_neg ?_ ?_); (· assumption); conv => whnf)
              | ((with_reducible refine forceL_fv (by assumption) ?_); conv => whnf)
              | ((with_reducible refine forceL_rfv (by assumption) ?_); conv => whnf)
              | ((with_reducible refine forceNm_of ?_); conv => whnf)
              | ((with_reducible refine needm_of (fv_lenL (by assumption) (by assumption)) ?_); conv => whnf)
              | ((with_reducible refine optm_var (fv_strL (by assumption) (by assumption)) (fun s hs => ?_)); conv => whnf)
              | ((with_reducible refine forceA_of ?_); conv => whnf)
              | ((with_reducible refine forceL_pl (by assumption) ?_); conv => whnf)
              | ((with_reducible refine forceL_rpl (by assumption) ?_); conv => whnf)
              | ((with_reducible refine needm_of ?_ ?_); (· first | (rw [hxl, hzl]; rfl) | (rw [hxl]; rfl)); conv => whnf)
              | ((with_reducible refine forceL_to (whole_of ?_) ?_); (· rw [hxl]; rfl); conv => whnf)
              | ((with_reducible refine forceL_to (store_all ?_) ?_); (· first | rw [hxl, hzl] | rfl); conv => whnf)
              | fail)
            refine forceL_var (fl_in hbs hxr (by rw [s69, ← hm, Nat.zero_add]) (by omega)) (fun bs2 hbs2 => ?_)
            have hbp2 := Pl.fls hbs2
            conv => whnf
            repeat' (first
              | rw [← hz3]
              | rw [hrz]
              | rw [Nat.zero_mul Try.prog.types[69].size]
              | ((with_reducible refine regx_of ?_ ?_); (· decide +kernel); conv => whnf)
              | ((with_reducible refine growx_pre ?_ ?_); (· exact ⟨_, rfl⟩); conv => whnf)
              | ((with_reducible refine needm_of ?_ ?_); (· first | assumption | exact decide_eq_true (by omega) | exact mkOK_of (by decide) | decide +kernel | (refine decide_eq_true ?_; simp (disch := omega) only [i64w]; omega)); conv => whnf)
              | ((with_reducible refine condm_pos ?_ ?_); (· assumption); conv => whnf)
              | ((with_reducible refine condm_neg ?_ ?_); (· assumption); conv => whnf)
              | ((with_reducible refine forceL_fv (by assumption) ?_); conv => whnf)
              | ((with_reducible refine forceL_rfv (by assumption) ?_); conv => whnf)
              | ((with_reducible refine forceNm_of ?_); conv => whnf)
              | ((with_reducible refine needm_of (fv_lenL (by assumption) (by assumption)) ?_); conv => whnf)
              | ((with_reducible refine optm_var (fv_strL (by assumption) (by assumption)) (fun s hs => ?_)); conv => whnf)
              | ((with_reducible refine forceA_of ?_); conv => whnf)
              | ((with_reducible refine forceL_pl (by assumption) ?_); conv => whnf)
              | ((with_reducible refine forceL_rpl (by assumption) ?_); conv => whnf)
              | ((with_reducible refine needm_of ?_ ?_); (· first | (rw [hxl, hzl]; rfl) | (rw [hxl]; rfl)); conv => whnf)
              | ((with_reducible refine forceL_to (whole_of ?_) ?_); (· rw [hxl]; rfl); conv => whnf)
              | ((with_reducible refine forceL_to (store_all ?_) ?_); (· first | rw [hxl, hzl] | rfl); conv => whnf)
              | fail)
            exact ⟨L.length - (k + 1), by omega, Into.weak [0, 1, 2] _ [.cells [.int .i64 room, .slc 1 0 L.length cap] 47 false, .cells cs 69 mk, .cells bs2 69 bk] ⟨k + 1, m + 1, c, bk, z.tail, bs2, by omega, rfl, by rw [hstep]; exact hbs2, by rw [List.length_tail]; omega, by rw [hstep, List.length_append, ← hm]; rfl, rfl, rfl⟩ ⟨rfl, rfl, rfl, congrArg (fun z => some (V.a (.int .i64 z))) hw, trivial⟩ ⟨rfl, ren_pl hp _ _ _, ren_pl hbp2 _ _ _, trivial⟩ (by simp [nodupb, baseb, Ob.okb, frmOk, V.okb, A.okb, hp.2, hbp2.2] <;> decide)⟩
          · have hc' := of_decide_eq_false hc
            conv => whnf
            refine needm_of (decide_eq_true (by rw [s69, b69, hbl]; omega)) ?_
            intro cap' hcap'
            conv => whnf
            repeat' (first
              | rw [← hz3]
              | rw [hrz]
              | rw [Nat.zero_mul Try.prog.types[69].size]
              | ((with_reducible refine regx_of ?_ ?_); (· decide +kernel); conv => whnf)
              | ((with_reducible refine growx_pre ?_ ?_); (· exact ⟨_, rfl⟩); conv => whnf)
              | ((with_reducible refine needm_of ?_ ?_); (· first | assumption | exact decide_eq_true (by omega) | exact mkOK_of (by decide) | decide +kernel | (refine decide_eq_true ?_; simp (disch := omega) only [i64w]; omega)); conv => whnf)
              | ((with_reducible refine condm_pos ?_ ?_); (· assumption); conv => whnf)
              | ((with_reducible refine condm_neg ?_ ?_); (· assumption); conv => whnf)
              | ((with_reducible refine forceL_fv (by assumption) ?_); conv => whnf)
              | ((with_reducible refine forceL_rfv (by assumption) ?_); conv => whnf)
              | ((with_reducible refine forceNm_of ?_); conv => whnf)
              | ((with_reducible refine needm_of (fv_lenL (by assumption) (by assumption)) ?_); conv => whnf)
              | ((with_reducible refine optm_var (fv_strL (by assumption) (by assumption)) (fun s hs => ?_)); conv => whnf)
              | ((with_reducible refine forceA_of ?_); conv => whnf)
              | ((with_reducible refine forceL_pl (by assumption) ?_); conv => whnf)
              | ((with_reducible refine forceL_rpl (by assumption) ?_); conv => whnf)
              | ((with_reducible refine needm_of ?_ ?_); (· first | (rw [hxl, hzl]; rfl) | (rw [hxl]; rfl)); conv => whnf)
              | ((with_reducible refine forceL_to (whole_of ?_) ?_); (· rw [hxl]; rfl); conv => whnf)
              | ((with_reducible refine forceL_to (store_all ?_) ?_); (· first | rw [hxl, hzl] | rfl); conv => whnf)
              | fail)
            refine forceL_var (fl_new hbs hxr (n := cap' - (m + 1)) (by rw [s69, ← hm]) hz3) (fun bs2 hbs2 => ?_)
            have hbp2 := Pl.fls hbs2
            conv => whnf
            repeat' (first
              | rw [← hz3]
              | rw [hrz]
              | rw [Nat.zero_mul Try.prog.types[69].size]
              | ((with_reducible refine regx_of ?_ ?_); (· decide +kernel); conv => whnf)
              | ((with_reducible refine growx_pre ?_ ?_); (· exact ⟨_, rfl⟩); conv => whnf)
              | ((with_reducible refine needm_of ?_ ?_); (· first | assumption | exact decide_eq_true (by omega) | exact mkOK_of (by decide) | decide +kernel | (refine decide_eq_true ?_; simp (disch := omega) only [i64w]; omega)); conv => whnf)
              | ((with_reducible refine condm_pos ?_ ?_); (· assumption); conv => whnf)
              | ((with_reducible refine condm_neg ?_ ?_); (· assumption); conv => whnf)
              | ((with_reducible refine forceL_fv (by assumption) ?_); conv => whnf)
              | ((with_reducible refine forceL_rfv (by assumption) ?_); conv => whnf)
              | ((with_reducible refine forceNm_of ?_); conv => whnf)
              | ((with_reducible refine needm_of (fv_lenL (by assumption) (by assumption)) ?_); conv => whnf)
              | ((with_reducible refine optm_var (fv_strL (by assumption) (by assumption)) (fun s hs => ?_)); conv => whnf)
              | ((with_reducible refine forceA_of ?_); conv => whnf)
              | ((with_reducible refine forceL_pl (by assumption) ?_); conv => whnf)
              | ((with_reducible refine forceL_rpl (by assumption) ?_); conv => whnf)
              | ((with_reducible refine needm_of ?_ ?_); (· first | (rw [hxl, hzl]; rfl) | (rw [hxl]; rfl)); conv => whnf)
              | ((with_reducible refine forceL_to (whole_of ?_) ?_); (· rw [hxl]; rfl); conv => whnf)
              | ((with_reducible refine forceL_to (store_all ?_) ?_); (· first | rw [hxl, hzl] | rfl); conv => whnf)
              | fail)
            exact ⟨L.length - (k + 1), by omega, Into.weak [0, 1, 4] _ [.cells [.int .i64 room, .slc 1 0 L.length cap] 47 false, .cells cs 69 mk, .cells bs2 69 false] ⟨k + 1, m + 1, cap', false, List.replicate (cap' - (m + 1)) z0, bs2, by omega, rfl, by rw [hstep]; exact hbs2, by rw [List.length_replicate]; omega, by rw [hstep, List.length_append, ← hm]; rfl, rfl, rfl⟩ ⟨rfl, rfl, rfl, congrArg (fun z => some (V.a (.int .i64 z))) hw, trivial⟩ ⟨rfl, ren_pl hp _ _ _, ren_pl hbp2 _ _ _, trivial⟩ (by simp [nodupb, baseb, Ob.okb, frmOk, V.okb, A.okb, hp.2, hbp2.2] <;> decide)⟩
    · have hkl : k = L.length := by have := of_decide_eq_false h2; omega
      rw [hkl, List.take_length] at hbs hm
      have hk := hK z bs c bk hbs (by rw [hc, hm])
      rw [← hm] at hk
      have hw : IntKind.i64.wrap (↑L.length - ↑m) = ((L.length - m : Nat) : Int) := by rw [i64w (by omega) (by omega)]; omega
      conv => whnf
      repeat' (first
        | ((with_reducible refine regx_of ?_ ?_); (· decide +kernel); conv => whnf)
        | ((with_reducible refine growx_pre ?_ ?_); (· exact ⟨_, rfl⟩); conv => whnf)
        | ((with_reducible refine needm_of ?_ ?_); (· first | assumption | exact decide_eq_true (by omega) | exact mkOK_of (by decide) | decide +kernel | (refine decide_eq_true ?_; simp (disch := omega) only [i64w]; omega)); conv => whnf)
        | ((with_reducible refine condm_pos ?_ ?_); (· assumption); conv => whnf)
        | ((with_reducible refine condm_neg ?_ ?_); (· assumption); conv => whnf)
        | ((with_reducible refine forceL_fv (by assumption) ?_); conv => whnf)
        | ((with_reducible refine forceL_rfv (by assumption) ?_); conv => whnf)
        | ((with_reducible refine forceNm_of ?_); conv => whnf)
        | ((with_reducible refine needm_of (fv_lenL (by assumption) (by assumption)) ?_); conv => whnf)
        | ((with_reducible refine optm_var (fv_strL (by assumption) (by assumption)) (fun s hs => ?_)); conv => whnf)
        | ((with_reducible refine forceA_of ?_); conv => whnf)
        | ((with_reducible refine forceL_pl (by assumption) ?_); conv => whnf)
        | ((with_reducible refine forceL_rpl (by assumption) ?_); conv => whnf)
        | fail)
      exact keepOf (v₀ := .a (.int .i64 ((L.length - m : Nat) : Int))) [.cells [.int .i64 room, .slc 2 0 m c] 47 false, .cells cs 69 mk, .cells bs 69 bk] [0, 1, 2] (by rw [hw]; rfl) ⟨rfl, ren_pl hp _ _ _, ren_pl hbp _ _ _, trivial⟩ (by simp [nodupb, baseb, Ob.okb, frmOk, V.okb, A.okb, hp.2, hbp.2] <;> decide) hk
end
end Go.Proofs.Ytkggpkgnkppceaa.LK
