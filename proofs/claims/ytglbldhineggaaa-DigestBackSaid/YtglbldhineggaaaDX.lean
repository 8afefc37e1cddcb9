import Derived.Test.YtglbldhineggaaaDH
namespace Go.Proofs.Ytglbldhineggaaa.DG
open Go.Eng
set_option maxRecDepth 100000
def dv (c : UInt8) : Option Nat := if 48 ≤ c.toNat ∧ c.toNat ≤ 57 then some (c.toNat - 48) else if 97 ≤ c.toNat ∧ c.toNat ≤ 102 then some (c.toNat - 87) else none
def dvI (c : UInt8) : Int := match dv c with
  | some n => n
  | none => -1
def dc (i : Nat) : UInt8 := if i < 10 then UInt8.ofNat (48 + i) else UInt8.ofNat (87 + i)
theorem dc_get (n : Nat) (h : n < 16) : byteAt { data := #[48, 49, 50, 51, 52, 53, 54, 55, 56, 57, 97, 98, 99, 100, 101, 102] } (n : Int) = some (dc n) := by
  have : ∀ k : Fin 16, byteAt { data := #[48, 49, 50, 51, 52, 53, 54, 55, 56, 57, 97, 98, 99, 100, 101, 102] } (k.val : Int) = some (dc k.val) := by decide +kernel
  exact this ⟨n, h⟩
theorem dv_of (c : UInt8) (i : Nat) (h : i < 16) (e : dc i = c) : dvI c = i := by
  subst e
  have : ∀ k : Fin 16, dvI (dc k.val) = (k.val : Int) := by decide +kernel
  exact this ⟨i, h⟩
theorem dv_none (c : UInt8) (h : ∀ i, i < 16 → dc i ≠ c) : dvI c = -1 := by
  have : ∀ k : Fin 256, (∀ j : Fin 16, dc j.val ≠ UInt8.ofNat k.val) → dvI (UInt8.ofNat k.val) = -1 := by decide +kernel
  have := this ⟨c.toNat, c.toNat_lt⟩ (fun j e => h j.val j.isLt (by rw [e]; simp))
  simpa using this
section
variable {ro : Addr → A → Prop}
set_option maxHeartbeats 0 in
theorem digit39 (c : UInt8) {K : V → Hp → Prop} (hk : ∀ r : Int, r = dvI c → K (.a (.int .i64 r)) []) :
    Go.Eng.Fn Try.prog ro 39 [.a (.int .u8 c.toNat)] [] K := by
  refine Go.Eng.Fn.weak ?_
  refine Go.Eng.Fn.of 0 (gOf []) rfl Try.func39 rfl (Nat.le_of_ble_eq_true rfl) ?_
  conv => whnf
  refine loopx_of (fun m F H => ∃ i : Nat, i ≤ 16 ∧ m = 16 - i ∧ (∀ j, j < i → dc j ≠ c) ∧ F = [(0, .a (.int .u8 c.toNat)), (3, .a (.int .i64 i))] ∧ H = []) 16 ?_ ?_
  · exact Into.weak [] _ _ ⟨0, by omega, rfl, fun j hj => absurd hj (Nat.not_lt_zero _), rfl, rfl⟩ ⟨rfl, rfl, trivial⟩ trivial rfl
  · rintro m F H ⟨i, hi, rfl, hno, rfl, rfl⟩
    conv => whnf
    refine condm_of (fun h => ?_) (fun h => ?_)
    · have hi16 : i < 16 := by have := of_decide_eq_true h; omega
      have e4 : IntKind.i64.wrap (↑i + 1) = ((i + 1 : Nat) : Int) := by rw [i64w (by omega) (by omega)]; rfl
      have hd := dc_get i hi16
      have hv := dv_of c i hi16
      have hn : dc i ≠ c → ∀ j, j < i + 1 → dc j ≠ c := fun h j hj => by
        by_cases e : j = i
        · subst e; exact h
        · exact hno j (by omega)
      generalize dc i = b at *
      conv => whnf
      refine optm_of hd ?_
      conv => whnf
      refine condm_of (fun hb => ?_) (fun hb => ?_)
      · conv => whnf
        have e : b = c := by
          have : (b.toNat : Int) = c.toNat := by simpa using hb
          exact UInt8.toNat_inj.1 (by omega)
        refine keepOf [] [] rfl trivial rfl (hk _ (hv e).symm)
      · conv => whnf
        have e : b ≠ c := fun e => by subst e; simp at hb
        exact ⟨16 - (i + 1), by omega, Into.weak [] _ _ ⟨i + 1, by omega, rfl, hn e, rfl, rfl⟩ ⟨rfl, congrArg (fun z => some (V.a (.int .i64 z))) e4, trivial⟩ trivial rfl⟩
    · have : i = 16 := by have := of_decide_eq_false h; omega
      subst this
      conv => whnf
      refine keepOf [] [] rfl trivial rfl (hk _ (dv_none c hno).symm)
end
def unhex : List UInt8 → Option (List UInt8)
  | [] => some []
  | [_] => none
  | a :: b :: l => match dv a, dv b, unhex l with
    | some x, some y, some r => some (UInt8.ofNat (16 * x + y) :: r)
    | _, _, _ => none
theorem unhex_len : ∀ (l r : List UInt8), unhex l = some r → l.length = 2 * r.length
  | [], r, h => by simp only [unhex, Option.some.injEq] at h; subst h; rfl
  | [_], r, h => by simp [unhex] at h
  | a :: b :: l, r, h => by
    unfold unhex at h
    split at h
    · rename_i x y r' h1 h2 h3
      simp only [Option.some.injEq] at h
      subst h
      have := unhex_len l r' h3
      simp only [List.length_cons]; omega
    · cases h
theorem unhex_step {l : List UInt8} {i : Nat} (h : i + 1 < l.length) : unhex (l.drop i) = match dv l[i], dv l[i + 1], unhex (l.drop (i + 2)) with
    | some x, some y, some r => some (UInt8.ofNat (16 * x + y) :: r)
    | _, _, _ => none := by
  rw [List.drop_eq_getElem_cons (show i < l.length by omega), List.drop_eq_getElem_cons h]
  rfl
theorem dvI_neg {c : UInt8} : dvI c < 0 ↔ dv c = none := by
  unfold dvI
  split <;> simp_all
theorem dvI_some {c : UInt8} (h : ¬ dvI c < 0) : ∃ n, dv c = some n ∧ dvI c = (n : Int) ∧ n < 16 := by
  have hs : ∀ k : Fin 256, ∀ n, dv (UInt8.ofNat k.val) = some n → n < 16 := by
    intro k n hn
    unfold dv at hn
    split at hn
    · simp only [Option.some.injEq] at hn; omega
    · split at hn
      · simp only [Option.some.injEq] at hn; omega
      · cases hn
  cases hd : dv c with
  | none => exact absurd (dvI_neg.2 hd) h
  | some n => exact ⟨n, rfl, by simp [dvI, hd], hs ⟨c.toNat, c.toNat_lt⟩ n (by simpa using hd)⟩
theorem byte16 {x y : Nat} (hx : x < 16) (hy : y < 16) : IntKind.u8.wrap (IntKind.i64.wrap (IntKind.i64.wrap (16 * (x : Int)) + y)) = ((UInt8.ofNat (16 * x + y)).toNat : Int) := by
  rw [i64w (x := 16 * (x : Int)) (by omega) (by omega), i64w (by omega) (by omega), wrap8, show (16 * (x : Int) + y) = ((16 * x + y : Nat) : Int) by omega, b8_ofNat]
section
variable {ro : Addr → A → Prop}
set_option maxHeartbeats 0 in
theorem fromHex15 (s : ByteArray) (l : List UInt8) (hl : l = s.data.toList) (hs : l.length ≤ 1048576) {K : V → Hp → Prop}
    (hk0 : unhex l = none → K (.t [.a (.str ⟨#[]⟩), .a (.int .i64 4)]) [])
    (hk1 : ∀ r, unhex l = some r → K (.t [.a (.str ⟨r.toArray⟩), .a (.int .i64 0)]) []) :
    Go.Eng.Fn Try.prog ro 15 [.a (.str s)] [] K := by
  have hsz : s.size = l.length := by rw [hl, Array.length_toList]; rfl
  refine Go.Eng.Fn.weak ?_
  refine Go.Eng.Fn.of 0 (gOf []) rfl Try.func15 rfl (Nat.le_of_ble_eq_true rfl) ?_
  conv => whnf
  refine condm_of (fun h => ?_) (fun h => ?_)
  · have : ((s.size : Int).tmod 2) = ((s.size % 2 : Nat) : Int) := rfl
    rw [this] at h
    have hodd : l.length % 2 = 1 := by simp at h; omega
    have hn : unhex l = none := by
      cases hu : unhex l with
      | none => rfl
      | some r => have := unhex_len l r hu; omega
    conv => whnf
    exact keepOf [] [] rfl trivial rfl (hk0 hn)
  · have hev : l.length % 2 = 0 := by
      have : ((s.size : Int).tmod 2) = ((s.size % 2 : Nat) : Int) := rfl
      rw [this] at h
      simp at h
      omega
    clear h
    conv => whnf
    refine loopx_of (fun m F H => ∃ (k : Nat) (L x : List UInt8) (cs : List A) (len cap : Nat), 2 * k ≤ l.length ∧ m = l.length - 2 * k ∧ len = L.length ∧ len = k ∧ unhex l = (unhex (l.drop (2 * k))).map (L ++ ·) ∧
      ((k = 0 ∧ F = [(0, .a (.str s)), (4, .a .nils), (5, .a (.int .i64 (2 * k : Nat)))] ∧ H = []) ∨
       (1 ≤ k ∧ cs = u8s (L ++ x) ∧ len + x.length = cap ∧ F = [(0, .a (.str s)), (4, .a (.slc 0 0 len cap)), (5, .a (.int .i64 (2 * k : Nat)))] ∧ H = [.cells cs 5 false]))) l.length ?_ ?_
    · exact Into.weak [] _ _ ⟨0, [], [], [], 0, 0, by omega, rfl, rfl, rfl, by simp, .inl ⟨rfl, rfl, rfl⟩⟩ ⟨rfl, rfl, rfl, trivial⟩ trivial rfl
    · rintro m F H ⟨k, L, x, cs, len, cap, hk2, rfl, hlen, hlk, hrel, hcase⟩
      have hcond : (decide (((2 * k : Nat) : Int) < (s.size : Int)) = true) ↔ 2 * k < l.length := by simp; omega
      by_cases hlt : 2 * k < l.length
      · have hct := hcond.2 hlt
        have h1 : 2 * k + 1 < l.length := by omega
        have hst := unhex_step h1
        have e4 : IntKind.i64.wrap (((2 * k : Nat) : Int) + 2) = ((2 * (k + 1) : Nat) : Int) := by rw [i64w (by omega) (by omega)]; omega
        have e5 : IntKind.i64.wrap (((2 * k : Nat) : Int) + 1) = ((2 * k + 1 : Nat) : Int) := by rw [i64w (by omega) (by omega)]; omega
        have hga : byteAt s ((2 * k : Nat) : Int) = some l[2 * k] := by
          subst hl
          unfold byteAt
          rw [if_pos (by omega)]
          exact byteAt_nat _ _ _
        have hgb : byteAt s (IntKind.i64.wrap (((2 * k : Nat) : Int) + 1)) = some l[2 * k + 1] := by
          rw [e5]
          subst hl
          unfold byteAt
          rw [if_pos (by omega)]
          exact byteAt_nat _ _ _
        generalize l[2 * k] = ca at *
        generalize l[2 * k + 1] = cb at *
        rcases hcase with ⟨hk00, rfl, rfl⟩ | ⟨hk11, hcs, hcap, rfl, rfl⟩
        · conv => whnf
          refine condm_pos hct ?_
          conv => whnf
          refine optm_of hga ?_
          conv => whnf
          repeat' (first
            | ((with_reducible refine regx_of ?_ ?_); (· decide +kernel); conv => whnf)
            | ((with_reducible refine growx_pre ?_ ?_); (· exact ⟨_, rfl⟩); conv => whnf)
            | ((with_reducible refine needm_of ?_ ?_); (· first | assumption | exact decide_eq_true (by omega) | decide +kernel | (refine decide_eq_true ?_; simp (disch := omega) only [i64w]; omega)); conv => whnf)
            | ((with_reducible refine condm_pos ?_ ?_); (· assumption); conv => whnf)
            | ((with_reducible refine condm_neg ?_ ?_); (· assumption); conv => whnf)
            | ((with_reducible refine forceL_fv (by assumption) ?_); conv => whnf)
            | ((with_reducible refine forceL_rfv (by assumption) ?_); conv => whnf)
            | ((with_reducible refine forceNm_of ?_); conv => whnf)
            | ((with_reducible refine needm_of (fv_lenL (by assumption) (by assumption)) ?_); conv => whnf)
            | ((with_reducible refine optm_var (fv_strL (by assumption) (by assumption)) (fun s hs => ?_)); conv => whnf)
            | ((with_reducible refine forceA_of ?_); conv => whnf)
            | fail)
          refine Fn.frame [] (by rfl) (by exact trivial) (by rfl) (digit39 ca (fun high hhi => ?_))
          conv => whnf
          repeat' (first
            | ((with_reducible refine regx_of ?_ ?_); (· decide +kernel); conv => whnf)
            | ((with_reducible refine growx_pre ?_ ?_); (· exact ⟨_, rfl⟩); conv => whnf)
            | ((with_reducible refine needm_of ?_ ?_); (· first | assumption | exact decide_eq_true (by omega) | decide +kernel | (refine decide_eq_true ?_; simp (disch := omega) only [i64w]; omega)); conv => whnf)
            | ((with_reducible refine condm_pos ?_ ?_); (· assumption); conv => whnf)
            | ((with_reducible refine condm_neg ?_ ?_); (· assumption); conv => whnf)
            | ((with_reducible refine forceL_fv (by assumption) ?_); conv => whnf)
            | ((with_reducible refine forceL_rfv (by assumption) ?_); conv => whnf)
            | ((with_reducible refine forceNm_of ?_); conv => whnf)
            | ((with_reducible refine needm_of (fv_lenL (by assumption) (by assumption)) ?_); conv => whnf)
            | ((with_reducible refine optm_var (fv_strL (by assumption) (by assumption)) (fun s hs => ?_)); conv => whnf)
            | ((with_reducible refine forceA_of ?_); conv => whnf)
            | fail)
          refine optm_of hgb ?_
          conv => whnf
          repeat' (first
            | ((with_reducible refine regx_of ?_ ?_); (· decide +kernel); conv => whnf)
            | ((with_reducible refine growx_pre ?_ ?_); (· exact ⟨_, rfl⟩); conv => whnf)
            | ((with_reducible refine needm_of ?_ ?_); (· first | assumption | exact decide_eq_true (by omega) | decide +kernel | (refine decide_eq_true ?_; simp (disch := omega) only [i64w]; omega)); conv => whnf)
            | ((with_reducible refine condm_pos ?_ ?_); (· assumption); conv => whnf)
            | ((with_reducible refine condm_neg ?_ ?_); (· assumption); conv => whnf)
            | ((with_reducible refine forceL_fv (by assumption) ?_); conv => whnf)
            | ((with_reducible refine forceL_rfv (by assumption) ?_); conv => whnf)
            | ((with_reducible refine forceNm_of ?_); conv => whnf)
            | ((with_reducible refine needm_of (fv_lenL (by assumption) (by assumption)) ?_); conv => whnf)
            | ((with_reducible refine optm_var (fv_strL (by assumption) (by assumption)) (fun s hs => ?_)); conv => whnf)
            | ((with_reducible refine forceA_of ?_); conv => whnf)
            | fail)
          refine Fn.frame [] (by rfl) (by exact trivial) (by rfl) (digit39 cb (fun low hlo => ?_))
          conv => whnf
          repeat' (first
            | ((with_reducible refine regx_of ?_ ?_); (· decide +kernel); conv => whnf)
            | ((with_reducible refine growx_pre ?_ ?_); (· exact ⟨_, rfl⟩); conv => whnf)
            | ((with_reducible refine needm_of ?_ ?_); (· first | assumption | exact decide_eq_true (by omega) | decide +kernel | (refine decide_eq_true ?_; simp (disch := omega) only [i64w]; omega)); conv => whnf)
            | ((with_reducible refine condm_pos ?_ ?_); (· assumption); conv => whnf)
            | ((with_reducible refine condm_neg ?_ ?_); (· assumption); conv => whnf)
            | ((with_reducible refine forceL_fv (by assumption) ?_); conv => whnf)
            | ((with_reducible refine forceL_rfv (by assumption) ?_); conv => whnf)
            | ((with_reducible refine forceNm_of ?_); conv => whnf)
            | ((with_reducible refine needm_of (fv_lenL (by assumption) (by assumption)) ?_); conv => whnf)
            | ((with_reducible refine optm_var (fv_strL (by assumption) (by assumption)) (fun s hs => ?_)); conv => whnf)
            | ((with_reducible refine forceA_of ?_); conv => whnf)
            | fail)
          by_cases ha : high < 0
          · have hda : dv ca = none := dvI_neg.1 (by rw [← hhi]; exact ha)
            have hun : unhex l = none := by rw [hrel, hst, hda]; rfl
            have hat : decide (high < 0) = true := decide_eq_true ha
            repeat' (first
              | ((with_reducible refine regx_of ?_ ?_); (· decide +kernel); conv => whnf)
              | ((with_reducible refine growx_pre ?_ ?_); (· exact ⟨_, rfl⟩); conv => whnf)
              | ((with_reducible refine needm_of ?_ ?_); (· first | assumption | exact decide_eq_true (by omega) | decide +kernel | (refine decide_eq_true ?_; simp (disch := omega) only [i64w]; omega)); conv => whnf)
              | ((with_reducible refine condm_pos ?_ ?_); (· assumption); conv => whnf)
              | ((with_reducible refine condm_neg ?_ ?_); (· assumption); conv => whnf)
              | ((with_reducible refine forceL_fv (by assumption) ?_); conv => whnf)
              | ((with_reducible refine forceL_rfv (by assumption) ?_); conv => whnf)
              | ((with_reducible refine forceNm_of ?_); conv => whnf)
              | ((with_reducible refine needm_of (fv_lenL (by assumption) (by assumption)) ?_); conv => whnf)
              | ((with_reducible refine optm_var (fv_strL (by assumption) (by assumption)) (fun s hs => ?_)); conv => whnf)
              | ((with_reducible refine forceA_of ?_); conv => whnf)
              | fail)
            exact keepOf [] [] rfl trivial rfl (hk0 hun)
          · have haf : decide (high < 0) = false := decide_eq_false ha
            obtain ⟨xa, hxa, hxi, hxl⟩ := dvI_some (c := ca) (by rw [← hhi]; exact ha)
            by_cases hb : low < 0
            · have hdb : dv cb = none := dvI_neg.1 (by rw [← hlo]; exact hb)
              have hun : unhex l = none := by rw [hrel, hst, hxa, hdb]; rfl
              have hbt : decide (low < 0) = true := decide_eq_true hb
              repeat' (first
                | ((with_reducible refine regx_of ?_ ?_); (· decide +kernel); conv => whnf)
                | ((with_reducible refine growx_pre ?_ ?_); (· exact ⟨_, rfl⟩); conv => whnf)
                | ((with_reducible refine needm_of ?_ ?_); (· first | assumption | exact decide_eq_true (by omega) | decide +kernel | (refine decide_eq_true ?_; simp (disch := omega) only [i64w]; omega)); conv => whnf)
                | ((with_reducible refine condm_pos ?_ ?_); (· assumption); conv => whnf)
                | ((with_reducible refine condm_neg ?_ ?_); (· assumption); conv => whnf)
                | ((with_reducible refine forceL_fv (by assumption) ?_); conv => whnf)
                | ((with_reducible refine forceL_rfv (by assumption) ?_); conv => whnf)
                | ((with_reducible refine forceNm_of ?_); conv => whnf)
                | ((with_reducible refine needm_of (fv_lenL (by assumption) (by assumption)) ?_); conv => whnf)
                | ((with_reducible refine optm_var (fv_strL (by assumption) (by assumption)) (fun s hs => ?_)); conv => whnf)
                | ((with_reducible refine forceA_of ?_); conv => whnf)
                | fail)
              exact keepOf [] [] rfl trivial rfl (hk0 hun)
            · have hbf : decide (low < 0) = false := decide_eq_false hb
              obtain ⟨xb, hxb, hxj, hxm⟩ := dvI_some (c := cb) (by rw [← hlo]; exact hb)
              have hv := byte16 hxl hxm
              rw [← hxi, ← hxj, ← hhi, ← hlo] at hv
              have hrel' : unhex l = (unhex (l.drop (2 * (k + 1)))).map ((L ++ [UInt8.ofNat (16 * xa + xb)]) ++ ·) := by
                rw [hrel, hst, hxa, hxb, show 2 * (k + 1) = 2 * k + 2 by omega]
                cases unhex (l.drop (2 * k + 2)) <;> simp
              generalize UInt8.ofNat (16 * xa + xb) = b at *
              repeat' (first
                | ((with_reducible refine regx_of ?_ ?_); (· decide +kernel); conv => whnf)
                | ((with_reducible refine growx_pre ?_ ?_); (· exact ⟨_, rfl⟩); conv => whnf)
                | ((with_reducible refine needm_of ?_ ?_); (· first | assumption | exact decide_eq_true (by omega) | decide +kernel | (refine decide_eq_true ?_; simp (disch := omega) only [i64w]; omega)); conv => whnf)
                | ((with_reducible refine condm_pos ?_ ?_); (· assumption); conv => whnf)
                | ((with_reducible refine condm_neg ?_ ?_); (· assumption); conv => whnf)
                | ((with_reducible refine forceL_fv (by assumption) ?_); conv => whnf)
                | ((with_reducible refine forceL_rfv (by assumption) ?_); conv => whnf)
                | ((with_reducible refine forceNm_of ?_); conv => whnf)
                | ((with_reducible refine needm_of (fv_lenL (by assumption) (by assumption)) ?_); conv => whnf)
                | ((with_reducible refine optm_var (fv_strL (by assumption) (by assumption)) (fun s hs => ?_)); conv => whnf)
                | ((with_reducible refine forceA_of ?_); conv => whnf)
                | fail)
              generalize IntKind.u8.wrap (IntKind.i64.wrap (IntKind.i64.wrap (16 * high) + low)) = v at *
              repeat' (first
                | ((with_reducible refine regx_of ?_ ?_); (· decide +kernel); conv => whnf)
                | ((with_reducible refine growx_pre ?_ ?_); (· exact ⟨_, rfl⟩); conv => whnf)
                | ((with_reducible refine needm_of ?_ ?_); (· first | assumption | exact decide_eq_true (by omega) | decide +kernel | (refine decide_eq_true ?_; simp (disch := omega) only [i64w]; omega)); conv => whnf)
                | ((with_reducible refine condm_pos ?_ ?_); (· assumption); conv => whnf)
                | ((with_reducible refine condm_neg ?_ ?_); (· assumption); conv => whnf)
                | ((with_reducible refine forceL_fv (by assumption) ?_); conv => whnf)
                | ((with_reducible refine forceL_rfv (by assumption) ?_); conv => whnf)
                | ((with_reducible refine forceNm_of ?_); conv => whnf)
                | ((with_reducible refine needm_of (fv_lenL (by assumption) (by assumption)) ?_); conv => whnf)
                | ((with_reducible refine optm_var (fv_strL (by assumption) (by assumption)) (fun s hs => ?_)); conv => whnf)
                | ((with_reducible refine forceA_of ?_); conv => whnf)
                | fail)
              obtain rfl : L = [] := List.eq_nil_of_length_eq_zero (by omega)
              intro cap' hcap'
              have hcap2 : 1 ≤ cap' := hcap'
              conv => whnf
              refine forceL_var (l' := u8s (List.replicate (cap' - 1) 0)) (by rw [s5, repl_u8]; simp) (fun tl htl => ?_)
              conv => whnf
              repeat' (first
                | ((with_reducible refine regx_of ?_ ?_); (· decide +kernel); conv => whnf)
                | ((with_reducible refine growx_pre ?_ ?_); (· exact ⟨_, rfl⟩); conv => whnf)
                | ((with_reducible refine needm_of ?_ ?_); (· first | assumption | exact decide_eq_true (by omega) | decide +kernel | (refine decide_eq_true ?_; simp (disch := omega) only [i64w]; omega)); conv => whnf)
                | ((with_reducible refine condm_pos ?_ ?_); (· assumption); conv => whnf)
                | ((with_reducible refine condm_neg ?_ ?_); (· assumption); conv => whnf)
                | ((with_reducible refine forceL_fv (by assumption) ?_); conv => whnf)
                | ((with_reducible refine forceL_rfv (by assumption) ?_); conv => whnf)
                | ((with_reducible refine forceNm_of ?_); conv => whnf)
                | ((with_reducible refine needm_of (fv_lenL (by assumption) (by assumption)) ?_); conv => whnf)
                | ((with_reducible refine optm_var (fv_strL (by assumption) (by assumption)) (fun s hs => ?_)); conv => whnf)
                | ((with_reducible refine forceA_of ?_); conv => whnf)
                | fail)
              have hcs' : (A.int .u8 v :: tl) = u8s (([] ++ [b]) ++ List.replicate (cap' - 1) 0) := by rw [htl, hv]; simp
              refine ⟨l.length - 2 * (k + 1), by omega, Into.weak [1] _ _ ⟨k + 1, [] ++ [b], List.replicate (cap' - 1) 0, _, 1, cap', by omega, rfl, rfl, by omega, hrel', .inr ⟨by omega, hcs', by rw [List.length_replicate]; omega, rfl, rfl⟩⟩ ⟨rfl, rfl, congrArg (fun z => some (V.a (.int .i64 z))) e4, trivial⟩ ⟨ren_fv hcs' _ _ _, trivial⟩ ?_⟩
              simp [nodupb, baseb, Ob.okb, frmOk, V.okb, A.okb, all_fv htl] <;> decide
        · conv => whnf
          refine condm_pos hct ?_
          conv => whnf
          refine optm_of hga ?_
          conv => whnf
          repeat' (first
            | ((with_reducible refine regx_of ?_ ?_); (· decide +kernel); conv => whnf)
            | ((with_reducible refine growx_pre ?_ ?_); (· exact ⟨_, rfl⟩); conv => whnf)
            | ((with_reducible refine needm_of ?_ ?_); (· first | assumption | exact decide_eq_true (by omega) | decide +kernel | (refine decide_eq_true ?_; simp (disch := omega) only [i64w]; omega)); conv => whnf)
            | ((with_reducible refine condm_pos ?_ ?_); (· assumption); conv => whnf)
            | ((with_reducible refine condm_neg ?_ ?_); (· assumption); conv => whnf)
            | ((with_reducible refine forceL_fv (by assumption) ?_); conv => whnf)
            | ((with_reducible refine forceL_rfv (by assumption) ?_); conv => whnf)
            | ((with_reducible refine forceNm_of ?_); conv => whnf)
            | ((with_reducible refine needm_of (fv_lenL (by assumption) (by assumption)) ?_); conv => whnf)
            | ((with_reducible refine optm_var (fv_strL (by assumption) (by assumption)) (fun s hs => ?_)); conv => whnf)
            | ((with_reducible refine forceA_of ?_); conv => whnf)
            | fail)
          refine Fn.frame [] (by rfl) (by exact trivial) (by rfl) (digit39 ca (fun high hhi => ?_))
          conv => whnf
          repeat' (first
            | ((with_reducible refine regx_of ?_ ?_); (· decide +kernel); conv => whnf)
            | ((with_reducible refine growx_pre ?_ ?_); (· exact ⟨_, rfl⟩); conv => whnf)
            | ((with_reducible refine needm_of ?_ ?_); (· first | assumption | exact decide_eq_true (by omega) | decide +kernel | (refine decide_eq_true ?_; simp (disch := omega) only [i64w]; omega)); conv => whnf)
            | ((with_reducible refine condm_pos ?_ ?_); (· assumption); conv => whnf)
            | ((with_reducible refine condm_neg ?_ ?_); (· assumption); conv => whnf)
            | ((with_reducible refine forceL_fv (by assumption) ?_); conv => whnf)
            | ((with_reducible refine forceL_rfv (by assumption) ?_); conv => whnf)
            | ((with_reducible refine forceNm_of ?_); conv => whnf)
            | ((with_reducible refine needm_of (fv_lenL (by assumption) (by assumption)) ?_); conv => whnf)
            | ((with_reducible refine optm_var (fv_strL (by assumption) (by assumption)) (fun s hs => ?_)); conv => whnf)
            | ((with_reducible refine forceA_of ?_); conv => whnf)
            | fail)
          refine optm_of hgb ?_
          conv => whnf
          repeat' (first
            | ((with_reducible refine regx_of ?_ ?_); (· decide +kernel); conv => whnf)
            | ((with_reducible refine growx_pre ?_ ?_); (· exact ⟨_, rfl⟩); conv => whnf)
            | ((with_reducible refine needm_of ?_ ?_); (· first | assumption | exact decide_eq_true (by omega) | decide +kernel | (refine decide_eq_true ?_; simp (disch := omega) only [i64w]; omega)); conv => whnf)
            | ((with_reducible refine condm_pos ?_ ?_); (· assumption); conv => whnf)
            | ((with_reducible refine condm_neg ?_ ?_); (· assumption); conv => whnf)
            | ((with_reducible refine forceL_fv (by assumption) ?_); conv => whnf)
            | ((with_reducible refine forceL_rfv (by assumption) ?_); conv => whnf)
            | ((with_reducible refine forceNm_of ?_); conv => whnf)
            | ((with_reducible refine needm_of (fv_lenL (by assumption) (by assumption)) ?_); conv => whnf)
            | ((with_reducible refine optm_var (fv_strL (by assumption) (by assumption)) (fun s hs => ?_)); conv => whnf)
            | ((with_reducible refine forceA_of ?_); conv => whnf)
            | fail)
          refine Fn.frame [] (by rfl) (by exact trivial) (by rfl) (digit39 cb (fun low hlo => ?_))
          conv => whnf
          repeat' (first
            | ((with_reducible refine regx_of ?_ ?_); (· decide +kernel); conv => whnf)
            | ((with_reducible refine growx_pre ?_ ?_); (· exact ⟨_, rfl⟩); conv => whnf)
            | ((with_reducible refine needm_of ?_ ?_); (· first | assumption | exact decide_eq_true (by omega) | decide +kernel | (refine decide_eq_true ?_; simp (disch := omega) only [i64w]; omega)); conv => whnf)
            | ((with_reducible refine condm_pos ?_ ?_); (· assumption); conv => whnf)
            | ((with_reducible refine condm_neg ?_ ?_); (· assumption); conv => whnf)
            | ((with_reducible refine forceL_fv (by assumption) ?_); conv => whnf)
            | ((with_reducible refine forceL_rfv (by assumption) ?_); conv => whnf)
            | ((with_reducible refine forceNm_of ?_); conv => whnf)
            | ((with_reducible refine needm_of (fv_lenL (by assumption) (by assumption)) ?_); conv => whnf)
            | ((with_reducible refine optm_var (fv_strL (by assumption) (by assumption)) (fun s hs => ?_)); conv => whnf)
            | ((with_reducible refine forceA_of ?_); conv => whnf)
            | fail)
          by_cases ha : high < 0
          · have hda : dv ca = none := dvI_neg.1 (by rw [← hhi]; exact ha)
            have hun : unhex l = none := by rw [hrel, hst, hda]; rfl
            have hat : decide (high < 0) = true := decide_eq_true ha
            repeat' (first
              | ((with_reducible refine regx_of ?_ ?_); (· decide +kernel); conv => whnf)
              | ((with_reducible refine growx_pre ?_ ?_); (· exact ⟨_, rfl⟩); conv => whnf)
              | ((with_reducible refine needm_of ?_ ?_); (· first | assumption | exact decide_eq_true (by omega) | decide +kernel | (refine decide_eq_true ?_; simp (disch := omega) only [i64w]; omega)); conv => whnf)
              | ((with_reducible refine condm_pos ?_ ?_); (· assumption); conv => whnf)
              | ((with_reducible refine condm_neg ?_ ?_); (· assumption); conv => whnf)
              | ((with_reducible refine forceL_fv (by assumption) ?_); conv => whnf)
              | ((with_reducible refine forceL_rfv (by assumption) ?_); conv => whnf)
              | ((with_reducible refine forceNm_of ?_); conv => whnf)
              | ((with_reducible refine needm_of (fv_lenL (by assumption) (by assumption)) ?_); conv => whnf)
              | ((with_reducible refine optm_var (fv_strL (by assumption) (by assumption)) (fun s hs => ?_)); conv => whnf)
              | ((with_reducible refine forceA_of ?_); conv => whnf)
              | fail)
            exact keepOf [] [] rfl trivial rfl (hk0 hun)
          · have haf : decide (high < 0) = false := decide_eq_false ha
            obtain ⟨xa, hxa, hxi, hxl⟩ := dvI_some (c := ca) (by rw [← hhi]; exact ha)
            by_cases hb : low < 0
            · have hdb : dv cb = none := dvI_neg.1 (by rw [← hlo]; exact hb)
              have hun : unhex l = none := by rw [hrel, hst, hxa, hdb]; rfl
              have hbt : decide (low < 0) = true := decide_eq_true hb
              repeat' (first
                | ((with_reducible refine regx_of ?_ ?_); (· decide +kernel); conv => whnf)
                | ((with_reducible refine growx_pre ?_ ?_); (· exact ⟨_, rfl⟩); conv => whnf)
                | ((with_reducible refine needm_of ?_ ?_); (· first | assumption | exact decide_eq_true (by omega) | decide +kernel | (refine decide_eq_true ?_; simp (disch := omega) only [i64w]; omega)); conv => whnf)
                | ((with_reducible refine condm_pos ?_ ?_); (· assumption); conv => whnf)
                | ((with_reducible refine condm_neg ?_ ?_); (· assumption); conv => whnf)
                | ((with_reducible refine forceL_fv (by assumption) ?_); conv => whnf)
                | ((with_reducible refine forceL_rfv (by assumption) ?_); conv => whnf)
                | ((with_reducible refine forceNm_of ?_); conv => whnf)
                | ((with_reducible refine needm_of (fv_lenL (by assumption) (by assumption)) ?_); conv => whnf)
                | ((with_reducible refine optm_var (fv_strL (by assumption) (by assumption)) (fun s hs => ?_)); conv => whnf)
                | ((with_reducible refine forceA_of ?_); conv => whnf)
                | fail)
              exact keepOf [] [] rfl trivial rfl (hk0 hun)
            · have hbf : decide (low < 0) = false := decide_eq_false hb
              obtain ⟨xb, hxb, hxj, hxm⟩ := dvI_some (c := cb) (by rw [← hlo]; exact hb)
              have hv := byte16 hxl hxm
              rw [← hxi, ← hxj, ← hhi, ← hlo] at hv
              have hrel' : unhex l = (unhex (l.drop (2 * (k + 1)))).map ((L ++ [UInt8.ofNat (16 * xa + xb)]) ++ ·) := by
                rw [hrel, hst, hxa, hxb, show 2 * (k + 1) = 2 * k + 2 by omega]
                cases unhex (l.drop (2 * k + 2)) <;> simp
              generalize UInt8.ofNat (16 * xa + xb) = b at *
              repeat' (first
                | ((with_reducible refine regx_of ?_ ?_); (· decide +kernel); conv => whnf)
                | ((with_reducible refine growx_pre ?_ ?_); (· exact ⟨_, rfl⟩); conv => whnf)
                | ((with_reducible refine needm_of ?_ ?_); (· first | assumption | exact decide_eq_true (by omega) | decide +kernel | (refine decide_eq_true ?_; simp (disch := omega) only [i64w]; omega)); conv => whnf)
                | ((with_reducible refine condm_pos ?_ ?_); (· assumption); conv => whnf)
                | ((with_reducible refine condm_neg ?_ ?_); (· assumption); conv => whnf)
                | ((with_reducible refine forceL_fv (by assumption) ?_); conv => whnf)
                | ((with_reducible refine forceL_rfv (by assumption) ?_); conv => whnf)
                | ((with_reducible refine forceNm_of ?_); conv => whnf)
                | ((with_reducible refine needm_of (fv_lenL (by assumption) (by assumption)) ?_); conv => whnf)
                | ((with_reducible refine optm_var (fv_strL (by assumption) (by assumption)) (fun s hs => ?_)); conv => whnf)
                | ((with_reducible refine forceA_of ?_); conv => whnf)
                | fail)
              generalize IntKind.u8.wrap (IntKind.i64.wrap (IntKind.i64.wrap (16 * high) + low)) = v at *
              repeat' (first
                | ((with_reducible refine regx_of ?_ ?_); (· decide +kernel); conv => whnf)
                | ((with_reducible refine growx_pre ?_ ?_); (· exact ⟨_, rfl⟩); conv => whnf)
                | ((with_reducible refine needm_of ?_ ?_); (· first | assumption | exact decide_eq_true (by omega) | decide +kernel | (refine decide_eq_true ?_; simp (disch := omega) only [i64w]; omega)); conv => whnf)
                | ((with_reducible refine condm_pos ?_ ?_); (· assumption); conv => whnf)
                | ((with_reducible refine condm_neg ?_ ?_); (· assumption); conv => whnf)
                | ((with_reducible refine forceL_fv (by assumption) ?_); conv => whnf)
                | ((with_reducible refine forceL_rfv (by assumption) ?_); conv => whnf)
                | ((with_reducible refine forceNm_of ?_); conv => whnf)
                | ((with_reducible refine needm_of (fv_lenL (by assumption) (by assumption)) ?_); conv => whnf)
                | ((with_reducible refine optm_var (fv_strL (by assumption) (by assumption)) (fun s hs => ?_)); conv => whnf)
                | ((with_reducible refine forceA_of ?_); conv => whnf)
                | fail)
              have hL : (L ++ [b]).length = k + 1 := by simp; omega
              refine condm_of (fun hc => ?_) (fun hc => ?_)
              · have hc' := of_decide_eq_true hc
                refine needm_of (decide_eq_true (by rw [s5, fv_len hcs, List.length_append]; simp only [List.length_drop, List.length_take, List.length_cons, List.length_nil]; omega)) ?_
                conv => whnf
                refine forceL_var (app_in (b := b) hcs hlen s5 (by rw [List.length_append]; omega) hv) (fun cs' hcs' => ?_)
                conv => whnf
                repeat' (first
                  | ((with_reducible refine regx_of ?_ ?_); (· decide +kernel); conv => whnf)
                  | ((with_reducible refine growx_pre ?_ ?_); (· exact ⟨_, rfl⟩); conv => whnf)
                  | ((with_reducible refine needm_of ?_ ?_); (· first | assumption | exact decide_eq_true (by omega) | decide +kernel | (refine decide_eq_true ?_; simp (disch := omega) only [i64w]; omega)); conv => whnf)
                  | ((with_reducible refine condm_pos ?_ ?_); (· assumption); conv => whnf)
                  | ((with_reducible refine condm_neg ?_ ?_); (· assumption); conv => whnf)
                  | ((with_reducible refine forceL_fv (by assumption) ?_); conv => whnf)
                  | ((with_reducible refine forceL_rfv (by assumption) ?_); conv => whnf)
                  | ((with_reducible refine forceNm_of ?_); conv => whnf)
                  | ((with_reducible refine needm_of (fv_lenL (by assumption) (by assumption)) ?_); conv => whnf)
                  | ((with_reducible refine optm_var (fv_strL (by assumption) (by assumption)) (fun s hs => ?_)); conv => whnf)
                  | ((with_reducible refine forceA_of ?_); conv => whnf)
                  | fail)
                refine ⟨l.length - 2 * (k + 1), by omega, Into.weak [0] _ _ ⟨k + 1, L ++ [b], x.tail, cs', len + 1, cap, by omega, rfl, by omega, by omega, hrel', .inr ⟨by omega, hcs', by rw [List.length_tail]; omega, rfl, rfl⟩⟩ ⟨rfl, rfl, congrArg (fun z => some (V.a (.int .i64 z))) e4, trivial⟩ ⟨ren_fv hcs' _ _ _, trivial⟩ ?_⟩
                simp [nodupb, baseb, Ob.okb, frmOk, V.okb, A.okb, all_fv hcs'] <;> decide
              · have hc' := of_decide_eq_false hc
                conv => whnf
                refine needm_of (decide_eq_true (by rw [s5, fv_len hcs, List.length_append]; exact ⟨by omega, by show (_ : Nat) * 1 ≤ _; omega, by omega⟩)) ?_
                intro cap' hcap'
                conv => whnf
                repeat' (first
                  | ((with_reducible refine regx_of ?_ ?_); (· decide +kernel); conv => whnf)
                  | ((with_reducible refine growx_pre ?_ ?_); (· exact ⟨_, rfl⟩); conv => whnf)
                  | ((with_reducible refine needm_of ?_ ?_); (· first | assumption | exact decide_eq_true (by omega) | decide +kernel | (refine decide_eq_true ?_; simp (disch := omega) only [i64w]; omega)); conv => whnf)
                  | ((with_reducible refine condm_pos ?_ ?_); (· assumption); conv => whnf)
                  | ((with_reducible refine condm_neg ?_ ?_); (· assumption); conv => whnf)
                  | ((with_reducible refine forceL_fv (by assumption) ?_); conv => whnf)
                  | ((with_reducible refine forceL_rfv (by assumption) ?_); conv => whnf)
                  | ((with_reducible refine forceNm_of ?_); conv => whnf)
                  | ((with_reducible refine needm_of (fv_lenL (by assumption) (by assumption)) ?_); conv => whnf)
                  | ((with_reducible refine optm_var (fv_strL (by assumption) (by assumption)) (fun s hs => ?_)); conv => whnf)
                  | ((with_reducible refine forceA_of ?_); conv => whnf)
                  | fail)
                refine forceL_var (app_new (b := b) hcs hlen s5 rfl hv) (fun cs' hcs' => ?_)
                conv => whnf
                repeat' (first
                  | ((with_reducible refine regx_of ?_ ?_); (· decide +kernel); conv => whnf)
                  | ((with_reducible refine growx_pre ?_ ?_); (· exact ⟨_, rfl⟩); conv => whnf)
                  | ((with_reducible refine needm_of ?_ ?_); (· first | assumption | exact decide_eq_true (by omega) | decide +kernel | (refine decide_eq_true ?_; simp (disch := omega) only [i64w]; omega)); conv => whnf)
                  | ((with_reducible refine condm_pos ?_ ?_); (· assumption); conv => whnf)
                  | ((with_reducible refine condm_neg ?_ ?_); (· assumption); conv => whnf)
                  | ((with_reducible refine forceL_fv (by assumption) ?_); conv => whnf)
                  | ((with_reducible refine forceL_rfv (by assumption) ?_); conv => whnf)
                  | ((with_reducible refine forceNm_of ?_); conv => whnf)
                  | ((with_reducible refine needm_of (fv_lenL (by assumption) (by assumption)) ?_); conv => whnf)
                  | ((with_reducible refine optm_var (fv_strL (by assumption) (by assumption)) (fun s hs => ?_)); conv => whnf)
                  | ((with_reducible refine forceA_of ?_); conv => whnf)
                  | fail)
                refine ⟨l.length - 2 * (k + 1), by omega, Into.weak [2] _ _ ⟨k + 1, L ++ [b], List.replicate (cap' - (len + 1)) 0, cs', len + 1, cap', by omega, rfl, by omega, by omega, hrel', .inr ⟨by omega, hcs', by rw [List.length_replicate]; omega, rfl, rfl⟩⟩ ⟨rfl, rfl, congrArg (fun z => some (V.a (.int .i64 z))) e4, trivial⟩ ⟨ren_fv hcs' _ _ _, trivial⟩ ?_⟩
                simp [nodupb, baseb, Ob.okb, frmOk, V.okb, A.okb, all_fv hcs'] <;> decide
      · have hcf : decide (((2 * k : Nat) : Int) < (s.size : Int)) = false := by
          cases hx : decide (((2 * k : Nat) : Int) < (s.size : Int)) with
          | false => rfl
          | true => exact absurd (hcond.1 hx) hlt
        have hke : 2 * k = l.length := by omega
        have hun : unhex l = some L := by rw [hrel, hke, List.drop_length]; simp [unhex]
        rcases hcase with ⟨hk00, rfl, rfl⟩ | ⟨hk11, hcs, hcap, rfl, rfl⟩
        · obtain rfl : L = [] := List.eq_nil_of_length_eq_zero (by omega)
          conv => whnf
          refine condm_neg hcf ?_
          conv => whnf
          exact keepOf [] [] rfl trivial rfl (hk1 [] hun)
        · conv => whnf
          refine condm_neg hcf ?_
          conv => whnf
          repeat' (first
            | ((with_reducible refine regx_of ?_ ?_); (· decide +kernel); conv => whnf)
            | ((with_reducible refine growx_pre ?_ ?_); (· exact ⟨_, rfl⟩); conv => whnf)
            | ((with_reducible refine needm_of ?_ ?_); (· first | assumption | exact decide_eq_true (by omega) | decide +kernel | (refine decide_eq_true ?_; simp (disch := omega) only [i64w]; omega)); conv => whnf)
            | ((with_reducible refine condm_pos ?_ ?_); (· assumption); conv => whnf)
            | ((with_reducible refine condm_neg ?_ ?_); (· assumption); conv => whnf)
            | ((with_reducible refine forceL_fv (by assumption) ?_); conv => whnf)
            | ((with_reducible refine forceL_rfv (by assumption) ?_); conv => whnf)
            | ((with_reducible refine forceNm_of ?_); conv => whnf)
            | ((with_reducible refine needm_of (fv_lenL (by assumption) (by assumption)) ?_); conv => whnf)
            | ((with_reducible refine optm_var (fv_strL (by assumption) (by assumption)) (fun s hs => ?_)); conv => whnf)
            | ((with_reducible refine forceA_of ?_); conv => whnf)
            | fail)
          subst hs
          exact keepOf [] [] rfl trivial rfl (hk1 _ hun)
end
end Go.Proofs.Ytglbldhineggaaa.DG
