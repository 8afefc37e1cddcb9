import Derived.Test.YtglbldhineggaaaDX
namespace Go.Proofs.Ytglbldhineggaaa.DG
open Go.Eng
set_option maxRecDepth 100000
theorem orv (o x : Nat) (ho : o < 16) (hx : x < 16) : bitx .or .u8 (IntKind.u8.wrap (((UInt8.ofNat o).toNat : Int) * 2 ^ min (4 : Int).toNat IntKind.u8.bits)) (x : Int) = ((UInt8.ofNat (16 * o + x)).toNat : Int) := by
  have : ∀ o x : Fin 16, bitx .or .u8 (IntKind.u8.wrap (((UInt8.ofNat o.val).toNat : Int) * 2 ^ min (4 : Int).toNat IntKind.u8.bits)) (x.val : Int) = ((UInt8.ofNat (16 * o.val + x.val)).toNat : Int) := by decide +kernel
  exact this ⟨o, ho⟩ ⟨x, hx⟩
theorem fv_mid {cs : List A} {L Z : List UInt8} {o : UInt8} (h : cs = u8s (L ++ o :: Z)) {n : Nat} (hn : n = L.length) : cs[n]? = some (.int .u8 (o.toNat : Int)) := by
  subst h hn
  rw [u8s_get (by simp)]
  simp
theorem fv_mid_set {cs : List A} {L Z : List UInt8} {o : UInt8} (h : cs = u8s (L ++ o :: Z)) {n : Nat} (hn : n = L.length) {v : Int} {b : UInt8} (hv : v = b.toNat) : storeL cs n [.int .u8 v] = u8s (L ++ b :: Z) := by
  subst h hn hv
  rw [storeL_one]
  simp
theorem sub8 {c k : Nat} (h : k ≤ c) (hc : c < 256) : IntKind.u8.wrap ((c : Int) - (k : Int)) = ((c - k : Nat) : Int) := by
  simp only [IntKind.wrap, IntKind.signed, IntKind.bits]
  simp
  omega
theorem add8 {c k : Nat} (hc : c + k < 256) : IntKind.u8.wrap ((c : Int) + (k : Int)) = ((c + k : Nat) : Int) := by
  simp only [IntKind.wrap, IntKind.signed, IntKind.bits]
  simp
  omega
def HexSt (l : List UInt8) (M i k par o : Nat) (L : List UInt8) (cs : List A) : Prop :=
  i = 2 * k + par ∧ par < 2 ∧ k < M ∧ L.length = k ∧ o < 16 ∧ (par = 0 → o = 0) ∧ (∀ h : 2 * k < l.length, par = 1 → dv l[2 * k] = some o) ∧ unhex l = (unhex (l.drop (2 * k))).map (L ++ ·) ∧ cs = u8s (L ++ UInt8.ofNat o :: List.replicate (M - k - 1) 0)
theorem dv_digit {c : UInt8} (h1 : 48 ≤ c.toNat) (h2 : c.toNat ≤ 57) : dv c = some (c.toNat - 48) := by unfold dv; rw [if_pos ⟨h1, h2⟩]
theorem dv_letter {c : UInt8} (h1 : 97 ≤ c.toNat) (h2 : c.toNat ≤ 102) : dv c = some (c.toNat - 87) := by unfold dv; rw [if_neg (by omega), if_pos ⟨h1, h2⟩]
theorem dv_bad {c : UInt8} (h1 : ¬ (48 ≤ c.toNat ∧ c.toNat ≤ 57)) (h2 : ¬ (97 ≤ c.toNat ∧ c.toNat ≤ 102)) : dv c = none := by unfold dv; rw [if_neg h1, if_neg h2]
theorem HexSt.bad {l : List UInt8} {M i k par o : Nat} {L : List UInt8} {cs : List A} (h : HexSt l M i k par o L cs) (hM : l.length = 2 * M) (hil : i < l.length) (hd : dv l[i] = none) : unhex l = none := by
  obtain ⟨hik, hpar, hkM, hL, ho, hp0, hp1, hrel, hcs⟩ := h
  have h1 : 2 * k + 1 < l.length := by omega
  rw [hrel, unhex_step h1]
  by_cases hp : par = 0
  · have : i = 2 * k := by omega
    subst this
    rw [hd]; rfl
  · have : i = 2 * k + 1 := by omega
    subst this
    rw [hd]
    cases dv l[2 * k] <;> rfl
theorem HexSt.next {l : List UInt8} {M i k par o x : Nat} {L : List UInt8} {cs cs' : List A} (h : HexSt l M i k par o L cs) (hM : l.length = 2 * M) (hil : i < l.length) (hd : dv l[i] = some x) (hx : x < 16)
    (hcs' : cs' = u8s (L ++ UInt8.ofNat (16 * o + x) :: List.replicate (M - k - 1) 0)) :
    (∃ k par o L, HexSt l M (i + 1) k par o L cs') ∨ (i + 1 = l.length ∧ ∃ L, unhex l = some L ∧ cs' = u8s L ∧ L.length = M) := by
  obtain ⟨hik, hpar, hkM, hL, ho, hp0, hp1, hrel, hcs⟩ := h
  have h1 : 2 * k + 1 < l.length := by omega
  by_cases hp : par = 0
  · obtain rfl := hp0 hp
    subst hp
    have hi2 : i = 2 * k := by omega
    refine .inl ⟨k, 1, x, L, by omega, by omega, hkM, hL, hx, fun h => (by omega), fun h _ => ?_, hrel, ?_⟩
    · subst hi2; exact hd
    · rw [hcs', Nat.mul_zero, Nat.zero_add]
  · have hp1' : par = 1 := by omega
    have hi2 : i = 2 * k + 1 := by omega
    have ha := hp1 (by omega) hp1'
    subst hi2
    have hrel' : unhex l = (unhex (l.drop (2 * (k + 1)))).map ((L ++ [UInt8.ofNat (16 * o + x)]) ++ ·) := by
      rw [hrel, unhex_step h1, ha, hd, show 2 * (k + 1) = 2 * k + 2 by omega]
      cases unhex (l.drop (2 * k + 2)) <;> simp
    by_cases hk : k + 1 < M
    · refine .inl ⟨k + 1, 0, 0, L ++ [UInt8.ofNat (16 * o + x)], by omega, by omega, hk, by simp; omega, by omega, fun _ => rfl, fun _ h => (by omega), hrel', ?_⟩
      obtain ⟨j, hj⟩ : ∃ j, M - k - 1 = j + 1 := ⟨M - k - 2, by omega⟩
      rw [hcs', hj, show M - (k + 1) - 1 = j by omega, List.replicate_succ]
      simp
    · refine .inr ⟨by omega, L ++ [UInt8.ofNat (16 * o + x)], ?_, ?_, by simp; omega⟩
      · rw [hrel', show 2 * (k + 1) = l.length by omega, List.drop_length]
        simp [unhex]
      · rw [hcs', show M - k - 1 = 0 by omega]
        simp
section
variable {ro : Addr → A → Prop}
set_option maxHeartbeats 0 in
theorem fromHex16 (s : ByteArray) (l : List UInt8) (hl : l = s.data.toList) (hs : l.length ≤ 281474976702464) {K : V → Hp → Prop}
    (hk0 : unhex l = none → K (.t [.a (.str ⟨#[]⟩), .a (.int .i64 4)]) [])
    (hk1 : ∀ r, unhex l = some r → K (.t [.a (.str ⟨r.toArray⟩), .a (.int .i64 0)]) []) :
    Go.Eng.Fn Try.prog ro 16 [.a (.str s)] [] K := by
  have hsz : s.size = l.length := by rw [hl, Array.length_toList]; rfl
  refine Go.Eng.Fn.weak ?_
  refine Go.Eng.Fn.of 0 (gOf []) rfl Try.func16 rfl (Nat.le_of_ble_eq_true rfl) ?_
  conv => whnf
  refine condm_of (fun h => ?_) (fun h => ?_)
  · have : ((s.size : Int).tmod 2) = ((s.size % 2 : Nat) : Int) := rfl
    rw [this] at h
    have hodd : l.length % 2 = 1 := by simp at h; omega
    have hn : unhex l = none := by
      cases hu : unhex l with
      | none => rfl
      | some r => have := unhex_len l r hu; omega
    conv => whnf
    exact keepOf [] [] rfl trivial rfl (hk0 hn)
  · have hev : l.length % 2 = 0 := by
      have : ((s.size : Int).tmod 2) = ((s.size % 2 : Nat) : Int) := rfl
      rw [this] at h
      simp at h
      omega
    clear h
    obtain ⟨M, hM⟩ : ∃ M, l.length = 2 * M := ⟨l.length / 2, by omega⟩
    have e1 : IntKind.i64.wrap ((s.size : Int).tdiv 2) = (M : Int) := by
      rw [show ((s.size : Int).tdiv 2) = ((s.size / 2 : Nat) : Int) from rfl, i64w (by omega) (by omega)]; omega
    conv => whnf
    rw [e1]
    refine needm_of (decide_eq_true ⟨by omega, by omega, by omega, by show (1 : Int) * _ ≤ _; omega⟩) ?_
    conv => whnf
    refine loopx_of (fun m F H => ∃ (i : Nat) (cs : List A), i ≤ l.length ∧ m = l.length - i ∧ F = [(0, .a (.str s)), (4, .a (.slc 0 0 M M)), (17, .a (.int .i64 s.size)), (18, .a (.int .i64 i))] ∧ H = [.cells cs 5 false] ∧
      ((∃ k par o L, HexSt l M i k par o L cs) ∨ (i = l.length ∧ ∃ L, unhex l = some L ∧ cs = u8s L ∧ L.length = M))) l.length ?_ ?_
    · have hcs : repl [A.int .u8 0] (M * Try.prog.types[5].size) = u8s (List.replicate M 0) := by rw [repl_u8, s5, Nat.mul_one]
      refine Into.weak [0] _ _ ⟨0, _, by omega, rfl, rfl, rfl, ?_⟩ ⟨rfl, rfl, rfl, rfl, trivial⟩ ⟨ren_fv hcs _ _ _, trivial⟩ ?_
      · by_cases h0 : M = 0
        · have : l = [] := List.eq_nil_of_length_eq_zero (by omega)
          subst this
          exact .inr ⟨rfl, [], rfl, by rw [hcs, h0]; rfl, by simp [h0]⟩
        · refine .inl ⟨0, 0, 0, [], rfl, by omega, by omega, rfl, by omega, fun _ => rfl, fun _ h => (by omega), by simp, ?_⟩
          rw [hcs]
          obtain ⟨M', rfl⟩ : ∃ M', M = M' + 1 := ⟨M - 1, by omega⟩
          simp [List.replicate_succ]
      · simp [nodupb, baseb, Ob.okb, frmOk, V.okb, A.okb, all_fv hcs]
    · rintro m F H ⟨i, cs, hi, rfl, rfl, rfl, hst⟩
      conv => whnf
      refine condm_of (fun h => ?_) (fun h => ?_)
      · have hil : i < l.length := by have := of_decide_eq_true h; omega
        obtain ⟨k, par, o, L, hik, hpar, hkM, hL, ho, hp0, hp1, hrel, hcs⟩ : ∃ k par o L, HexSt l M i k par o L cs := by
          rcases hst with h | ⟨h, _⟩
          · exact h
          · omega
        have e4 : IntKind.i64.wrap (↑i + 1) = ((i + 1 : Nat) : Int) := by rw [i64w (by omega) (by omega)]; rfl
        have e2 : IntKind.i64.wrap ((i : Int).tdiv 2) = (k : Int) := by
          rw [show ((i : Int).tdiv 2) = ((i / 2 : Nat) : Int) from rfl, i64w (by omega) (by omega)]; omega
        have hg : byteAt s (i : Int) = some l[i] := by
          subst hl
          unfold byteAt
          rw [if_pos (by omega)]
          exact byteAt_nat _ _ _
        obtain ⟨c, hc⟩ : ∃ c, l[i] = c := ⟨_, rfl⟩
        rw [hc] at hg
        have hcl := c.toNat_lt
        conv => whnf
        refine optm_of hg ?_
        conv => whnf
        repeat' (first
          | ((with_reducible refine regx_of ?_ ?_); (· decide +kernel); conv => whnf)
          | ((with_reducible refine growx_pre ?_ ?_); (· exact ⟨_, rfl⟩); conv => whnf)
          | ((with_reducible refine needm_of ?_ ?_); (· first | assumption | exact decide_eq_true (by omega) | decide +kernel | (refine decide_eq_true ?_; simp (disch := omega) only [i64w]; omega)); conv => whnf)
          | ((with_reducible refine condm_pos ?_ ?_); (· assumption); conv => whnf)
          | ((with_reducible refine condm_neg ?_ ?_); (· assumption); conv => whnf)
          | ((with_reducible refine forceL_fv (by assumption) ?_); conv => whnf)
          | ((with_reducible refine forceL_rfv (by assumption) ?_); conv => whnf)
          | ((with_reducible refine forceNm_of ?_); conv => whnf)
          | ((with_reducible refine needm_of (fv_lenL (by assumption) (by assumption)) ?_); conv => whnf)
          | ((with_reducible refine optm_var (fv_strL (by assumption) (by assumption)) (fun s hs => ?_)); conv => whnf)
          | ((with_reducible refine forceA_of ?_); conv => whnf)
          | ((with_reducible refine condm_of (fun h => ?_) (fun h => ?_)) <;> (conv => whnf))
          | ((with_reducible refine And.intro ?_ ?_) <;> (conv => whnf))
          | fail)
        all_goals simp only [decide_eq_true_eq, decide_eq_false_iff_not] at *
        all_goals first
          | (exfalso; omega)
          | exact keepOf [] [] rfl trivial rfl (hk0 (HexSt.bad ⟨hik, hpar, hkM, hL, ho, hp0, hp1, hrel, hcs⟩ hM hil (by rw [hc]; exact dv_bad (by omega) (by omega))))
          | skip
        · obtain ⟨x, hx16, hdv, hv⟩ : ∃ x : Nat, x < 16 ∧ dv c = some x ∧ IntKind.u8.wrap ((c.toNat : Int) - 48) = (x : Int) := ⟨c.toNat - 48, by omega, dv_digit (by omega) (by omega), sub8 (k := 48) (by omega) (by omega)⟩
          generalize IntKind.u8.wrap ((c.toNat : Int) - 48) = v at *
          have hst' : HexSt l M i k par o L cs := ⟨hik, hpar, hkM, hL, ho, hp0, hp1, hrel, hcs⟩
          have hor := orv o x ho hx16
          rw [← hv] at hor
          have hg2 : cs[0 + (IntKind.i64.wrap ((i : Int).tdiv 2)).toNat * Try.prog.types[5].size]? = some (.int .u8 ((UInt8.ofNat o).toNat : Int)) := by
            rw [e2, s5, Int.toNat_natCast, Nat.mul_one, Nat.zero_add]; exact fv_mid hcs hL.symm
          have hnx := fun cs' h => hst'.next (cs' := cs') hM hil (by rw [hc]; exact hdv) hx16 h
          generalize UInt8.ofNat (16 * o + x) = b at *
          refine optm_of hg2 ?_
          conv => whnf
          generalize ((UInt8.ofNat o).toNat : Int) = ov at *
          repeat' (first
            | ((with_reducible refine regx_of ?_ ?_); (· decide +kernel); conv => whnf)
            | ((with_reducible refine growx_pre ?_ ?_); (· exact ⟨_, rfl⟩); conv => whnf)
            | ((with_reducible refine needm_of ?_ ?_); (· first | assumption | exact decide_eq_true (by omega) | decide +kernel | (refine decide_eq_true ?_; simp (disch := omega) only [i64w]; omega)); conv => whnf)
            | ((with_reducible refine condm_pos ?_ ?_); (· assumption); conv => whnf)
            | ((with_reducible refine condm_neg ?_ ?_); (· assumption); conv => whnf)
            | ((with_reducible refine forceL_fv (by assumption) ?_); conv => whnf)
            | ((with_reducible refine forceL_rfv (by assumption) ?_); conv => whnf)
            | ((with_reducible refine forceNm_of ?_); conv => whnf)
            | ((with_reducible refine needm_of (fv_lenL (by assumption) (by assumption)) ?_); conv => whnf)
            | ((with_reducible refine optm_var (fv_strL (by assumption) (by assumption)) (fun s hs => ?_)); conv => whnf)
            | ((with_reducible refine forceA_of ?_); conv => whnf)
            | ((with_reducible refine needm_of ?_ ?_); (· rw [e2]; exact decide_eq_true (by omega)); conv => whnf)
            | fail)
          refine needm_of (by rw [fv_len hcs, s5, e2]; simp; omega) ?_
          conv => whnf
          refine forceL_var (fv_mid_set hcs (by rw [e2, s5, Int.toNat_natCast]; omega) hor) (fun cs' hcs' => ?_)
          conv => whnf
          repeat' (first
            | ((with_reducible refine regx_of ?_ ?_); (· decide +kernel); conv => whnf)
            | ((with_reducible refine growx_pre ?_ ?_); (· exact ⟨_, rfl⟩); conv => whnf)
            | ((with_reducible refine needm_of ?_ ?_); (· first | assumption | exact decide_eq_true (by omega) | decide +kernel | (refine decide_eq_true ?_; simp (disch := omega) only [i64w]; omega)); conv => whnf)
            | ((with_reducible refine condm_pos ?_ ?_); (· assumption); conv => whnf)
            | ((with_reducible refine condm_neg ?_ ?_); (· assumption); conv => whnf)
            | ((with_reducible refine forceL_fv (by assumption) ?_); conv => whnf)
            | ((with_reducible refine forceL_rfv (by assumption) ?_); conv => whnf)
            | ((with_reducible refine forceNm_of ?_); conv => whnf)
            | ((with_reducible refine needm_of (fv_lenL (by assumption) (by assumption)) ?_); conv => whnf)
            | ((with_reducible refine optm_var (fv_strL (by assumption) (by assumption)) (fun s hs => ?_)); conv => whnf)
            | ((with_reducible refine forceA_of ?_); conv => whnf)
            | fail)
          refine ⟨l.length - (i + 1), by omega, Into.weak [0] _ _ ⟨i + 1, cs', by omega, rfl, rfl, rfl, hnx cs' hcs'⟩ ⟨rfl, rfl, rfl, congrArg (fun z => some (V.a (.int .i64 z))) e4, trivial⟩ ⟨ren_fv hcs' _ _ _, trivial⟩ ?_⟩
          simp [nodupb, baseb, Ob.okb, frmOk, V.okb, A.okb, all_fv hcs']
        · obtain ⟨x, hx16, hdv, hv⟩ : ∃ x : Nat, x < 16 ∧ dv c = some x ∧ IntKind.u8.wrap (IntKind.u8.wrap ((c.toNat : Int) - 97) + 10) = (x : Int) := ⟨c.toNat - 87, by omega, dv_letter (by omega) (by omega), by
            rw [show (97 : Int) = ((97 : Nat) : Int) from rfl, sub8 (by omega) (by omega), show (10 : Int) = ((10 : Nat) : Int) from rfl, add8 (by omega)]; omega⟩
          generalize IntKind.u8.wrap (IntKind.u8.wrap ((c.toNat : Int) - 97) + 10) = v at *
          have hst' : HexSt l M i k par o L cs := ⟨hik, hpar, hkM, hL, ho, hp0, hp1, hrel, hcs⟩
          have hor := orv o x ho hx16
          rw [← hv] at hor
          have hg2 : cs[0 + (IntKind.i64.wrap ((i : Int).tdiv 2)).toNat * Try.prog.types[5].size]? = some (.int .u8 ((UInt8.ofNat o).toNat : Int)) := by
            rw [e2, s5, Int.toNat_natCast, Nat.mul_one, Nat.zero_add]; exact fv_mid hcs hL.symm
          have hnx := fun cs' h => hst'.next (cs' := cs') hM hil (by rw [hc]; exact hdv) hx16 h
          generalize UInt8.ofNat (16 * o + x) = b at *
          refine optm_of hg2 ?_
          conv => whnf
          generalize ((UInt8.ofNat o).toNat : Int) = ov at *
          repeat' (first
            | ((with_reducible refine regx_of ?_ ?_); (· decide +kernel); conv => whnf)
            | ((with_reducible refine growx_pre ?_ ?_); (· exact ⟨_, rfl⟩); conv => whnf)
            | ((with_reducible refine needm_of ?_ ?_); (· first | assumption | exact decide_eq_true (by omega) | decide +kernel | (refine decide_eq_true ?_; simp (disch := omega) only [i64w]; omega)); conv => whnf)
            | ((with_reducible refine condm_pos ?_ ?_); (· assumption); conv => whnf)
            | ((with_reducible refine condm_neg ?_ ?_); (· assumption); conv => whnf)
            | ((with_reducible refine forceL_fv (by assumption) ?_); conv => whnf)
            | ((with_reducible refine forceL_rfv (by assumption) ?_); conv => whnf)
            | ((with_reducible refine forceNm_of ?_); conv => whnf)
            | ((with_reducible refine needm_of (fv_lenL (by assumption) (by assumption)) ?_); conv => whnf)
            | ((with_reducible refine optm_var (fv_strL (by assumption) (by assumption)) (fun s hs => ?_)); conv => whnf)
            | ((with_reducible refine forceA_of ?_); conv => whnf)
            | ((with_reducible refine needm_of ?_ ?_); (· rw [e2]; exact decide_eq_true (by omega)); conv => whnf)
            | fail)
          refine needm_of (by rw [fv_len hcs, s5, e2]; simp; omega) ?_
          conv => whnf
          refine forceL_var (fv_mid_set hcs (by rw [e2, s5, Int.toNat_natCast]; omega) hor) (fun cs' hcs' => ?_)
          conv => whnf
          repeat' (first
            | ((with_reducible refine regx_of ?_ ?_); (· decide +kernel); conv => whnf)
            | ((with_reducible refine growx_pre ?_ ?_); (· exact ⟨_, rfl⟩); conv => whnf)
            | ((with_reducible refine needm_of ?_ ?_); (· first | assumption | exact decide_eq_true (by omega) | decide +kernel | (refine decide_eq_true ?_; simp (disch := omega) only [i64w]; omega)); conv => whnf)
            | ((with_reducible refine condm_pos ?_ ?_); (· assumption); conv => whnf)
            | ((with_reducible refine condm_neg ?_ ?_); (· assumption); conv => whnf)
            | ((with_reducible refine forceL_fv (by assumption) ?_); conv => whnf)
            | ((with_reducible refine forceL_rfv (by assumption) ?_); conv => whnf)
            | ((with_reducible refine forceNm_of ?_); conv => whnf)
            | ((with_reducible refine needm_of (fv_lenL (by assumption) (by assumption)) ?_); conv => whnf)
            | ((with_reducible refine optm_var (fv_strL (by assumption) (by assumption)) (fun s hs => ?_)); conv => whnf)
            | ((with_reducible refine forceA_of ?_); conv => whnf)
            | fail)
          refine ⟨l.length - (i + 1), by omega, Into.weak [0] _ _ ⟨i + 1, cs', by omega, rfl, rfl, rfl, hnx cs' hcs'⟩ ⟨rfl, rfl, rfl, congrArg (fun z => some (V.a (.int .i64 z))) e4, trivial⟩ ⟨ren_fv hcs' _ _ _, trivial⟩ ?_⟩
          simp [nodupb, baseb, Ob.okb, frmOk, V.okb, A.okb, all_fv hcs']
      · have hie : i = l.length := by have := of_decide_eq_false h; omega
        obtain ⟨L, hun, hcs, hLM⟩ : ∃ L, unhex l = some L ∧ cs = u8s L ∧ L.length = M := by
          rcases hst with ⟨k, par, o, L, hik, hpar, hkM, _⟩ | ⟨_, h⟩
          · omega
          · exact h
        have hcs' : cs = u8s (L ++ []) := by rw [hcs, List.append_nil]
        have hML : M = L.length := hLM.symm
        conv => whnf
        repeat' (first
          | ((with_reducible refine regx_of ?_ ?_); (· decide +kernel); conv => whnf)
          | ((with_reducible refine growx_pre ?_ ?_); (· exact ⟨_, rfl⟩); conv => whnf)
          | ((with_reducible refine needm_of ?_ ?_); (· first | assumption | exact decide_eq_true (by omega) | decide +kernel | (refine decide_eq_true ?_; simp (disch := omega) only [i64w]; omega)); conv => whnf)
          | ((with_reducible refine condm_pos ?_ ?_); (· assumption); conv => whnf)
          | ((with_reducible refine condm_neg ?_ ?_); (· assumption); conv => whnf)
          | ((with_reducible refine forceL_fv (by assumption) ?_); conv => whnf)
          | ((with_reducible refine forceL_rfv (by assumption) ?_); conv => whnf)
          | ((with_reducible refine forceNm_of ?_); conv => whnf)
          | ((with_reducible refine needm_of (fv_lenL (by assumption) (by assumption)) ?_); conv => whnf)
          | ((with_reducible refine optm_var (fv_strL (by assumption) (by assumption)) (fun s hs => ?_)); conv => whnf)
          | ((with_reducible refine forceA_of ?_); conv => whnf)
          | fail)
        subst hs
        exact keepOf [] [] rfl trivial rfl (hk1 _ hun)
end
end Go.Proofs.Ytglbldhineggaaa.DG
