import Derived.Test.YtmnimmhpclhmfaaPV
namespace Go.Proofs.Ytmnimmhpclhmfaa.PC
open Go.Eng
set_option maxRecDepth 100000
theorem L_irr (a : Nat) : less a a = false := by rw [less_key]; exact kl_irrefl _
theorem L_asymm {a b : Nat} (h : less a b = true) : less b a = false := by rw [less_key] at *; exact kl_asymm h
theorem L_ltle {a b c : Nat} (h : less a b = true) (h' : less c b = false) : less a c = true := by rw [less_key] at *; exact kl_lt_le h h'
theorem L_lelt {a b c : Nat} (h : less b a = false) (h' : less b c = true) : less a c = true := by rw [less_key] at *; exact kl_le_lt h h'
theorem L_lele {a b c : Nat} (h : less b a = false) (h' : less c b = false) : less c a = false := by rw [less_key] at *; exact kl_le_trans h h'
theorem no {x : Bool} {p : Prop} (h : x = true) (h' : x = false) : p := by subst h; cases h'
/-- How two floats stand. -/
theorem two (a b : Nat) : (less a b = true ∧ less b a = false ∧ fEqK .f64 a b = false ∧ ((isNan a = true ∧ isNan b = false ∧ fLtK .f64 a b = false) ∨ (isNan a = false ∧ isNan b = false ∧ fLtK .f64 a b = true))) ∨
    (less a b = false ∧ less b a = true ∧ fEqK .f64 a b = false ∧ isNan a = false ∧ fLtK .f64 a b = false) ∨
    (less a b = false ∧ less b a = false ∧ ((isNan a = true ∧ isNan b = true ∧ fEqK .f64 a b = false ∧ fLtK .f64 a b = false) ∨ (isNan a = false ∧ isNan b = false ∧ fEqK .f64 a b = true ∧ fLtK .f64 a b = false))) := by
  rw [less_key, less_key, fkey_nan, fkey_nan, fEq_key, fLt_key]
  cases fkey a <;> cases fkey b <;> simp [keyLess]
  omega
section
variable {ro : Addr → A → Prop}
set_option maxHeartbeats 4000000 in
theorem less4 (a b c : Nat) : Go.Eng.Fn Try.prog ro 4 [.a (.int .u64 a), .a (.int .u64 b), .a (.int .u64 c)] [] (fun v _ => v = .a (.bool true)) := by
  have haa := L_irr a
  have hsa := fEq_self a
  have hsb := fEq_self b
  refine Go.Eng.Fn.of_code (gOf []) Try.func4 rfl (Nat.le_of_ble_eq_true rfl) ?_
  conv => whnf
  refine Go.Eng.Fn.frame [] (by rfl) (by exact trivial) (by rfl) (works18 ?_)
  conv => whnf
  repeat' (first
    | rw [Int.toNat_natCast]
    | ((with_reducible refine regx_of ?_ ?_); (· decide +kernel); conv => whnf)
    | ((with_reducible refine growx_pre ?_ ?_); (· exact ⟨_, rfl⟩); conv => whnf)
    | ((with_reducible refine needm_of ?_ ?_); (· first | assumption | exact decide_eq_true (by omega) | exact mkOK_of (by decide) | decide +kernel | (refine decide_eq_true ?_; simp (disch := omega) only [i64w]; omega)); conv => whnf)
    | ((with_reducible refine condm_pos ?_ ?_); (· assumption); conv => whnf)
    | ((with_reducible refine condm_neg ?_ ?_); (· assumption); conv => whnf)
    | ((with_reducible refine forceL_fv (by assumption) ?_); conv => whnf)
    | ((with_reducible refine forceL_rfv (by assumption) ?_); conv => whnf)
    | ((with_reducible refine forceNm_of ?_); conv => whnf)
    | ((with_reducible refine needm_of (fv_lenL (by assumption) (by assumption)) ?_); conv => whnf)
    | ((with_reducible refine optm_var (fv_strL (by assumption) (by assumption)) (fun s hs => ?_)); conv => whnf)
    | ((with_reducible refine forceA_of ?_); conv => whnf)
    | ((refine ext_from (by rfl) from_n from_f ?_); conv => whnf)
    | fail)
  refine Go.Eng.Fn.frame [] (by rfl) (by exact trivial) (by rfl) (less11 a a ?_)
  rw [haa]
  have h2 := two a b
  rcases h2 with ⟨hab, hba, heq, ⟨hna, hnb, hlt⟩ | ⟨hna, hnb, hlt⟩⟩ | ⟨hab, hba, heq, hna, hlt⟩ | ⟨hab, hba, ⟨hna, hnb, heq, hlt⟩ | ⟨hna, hnb, heq, hlt⟩⟩
  all_goals
    have hea : fEqK .f64 a a = _ := hsa
    have heb : fEqK .f64 b b = _ := hsb
    try rw [hna] at hea
    try rw [hnb] at heb
    cases hbc : less b c
    all_goals
      cases hcb : less c b
      all_goals
        cases hac : less a c
        all_goals
          cases hca : less c a
          all_goals
            first
            | exact no hba (L_asymm hab)
            | exact no hca (L_asymm hac)
            | exact no hab (L_asymm hba)
            | exact no hcb (L_asymm hbc)
            | exact no hac (L_asymm hca)
            | exact no hbc (L_asymm hcb)
            | exact no (L_ltle hab hcb) hac
            | exact no (L_lelt hba hbc) hac
            | exact no hca (L_lele hba hcb)
            | exact no (L_ltle hac hbc) hab
            | exact no (L_lelt hca hcb) hab
            | exact no hba (L_lele hca hbc)
            | exact no (L_ltle hba hca) hbc
            | exact no (L_lelt hab hac) hbc
            | exact no hcb (L_lele hab hca)
            | exact no (L_ltle hbc hac) hba
            | exact no (L_lelt hcb hca) hba
            | exact no hab (L_lele hcb hac)
            | exact no (L_ltle hca hba) hcb
            | exact no (L_lelt hac hab) hcb
            | exact no hbc (L_lele hac hba)
            | exact no (L_ltle hcb hab) hca
            | exact no (L_lelt hbc hba) hca
            | exact no hac (L_lele hbc hab)
            | skip
  all_goals
    repeat' (first
      | (rw [haa]; conv => whnf)
      | (rw [hab]; conv => whnf)
      | (rw [hba]; conv => whnf)
      | (rw [hbc]; conv => whnf)
      | (rw [hcb]; conv => whnf)
      | (rw [hac]; conv => whnf)
      | (rw [hca]; conv => whnf)
      | (rw [hea]; conv => whnf)
      | (rw [heb]; conv => whnf)
      | (rw [heq]; conv => whnf)
      | (rw [hlt]; conv => whnf)
      | ((with_reducible refine regx_of ?_ ?_); (· decide +kernel); conv => whnf)
      | ((with_reducible refine growx_pre ?_ ?_); (· exact ⟨_, rfl⟩); conv => whnf)
      | ((with_reducible refine needm_of ?_ ?_); (· first | assumption | exact decide_eq_true (by omega) | exact mkOK_of (by decide) | decide +kernel | (refine decide_eq_true ?_; simp (disch := omega) only [i64w]; omega)); conv => whnf)
      | ((with_reducible refine condm_pos ?_ ?_); (· assumption); conv => whnf)
      | ((with_reducible refine condm_neg ?_ ?_); (· assumption); conv => whnf)
      | ((with_reducible refine forceL_fv (by assumption) ?_); conv => whnf)
      | ((with_reducible refine forceL_rfv (by assumption) ?_); conv => whnf)
      | ((with_reducible refine forceNm_of ?_); conv => whnf)
      | ((with_reducible refine needm_of (fv_lenL (by assumption) (by assumption)) ?_); conv => whnf)
      | ((with_reducible refine optm_var (fv_strL (by assumption) (by assumption)) (fun s hs => ?_)); conv => whnf)
      | ((with_reducible refine forceA_of ?_); conv => whnf)
      | ((refine ext_from (by rfl) from_n from_f ?_); conv => whnf)
      | refine Go.Eng.Fn.frame [] (by rfl) (by exact trivial) (by rfl) (less11 a a ?_)
      | refine Go.Eng.Fn.frame [] (by rfl) (by exact trivial) (by rfl) (less11 a b ?_)
      | refine Go.Eng.Fn.frame [] (by rfl) (by exact trivial) (by rfl) (less11 b a ?_)
      | refine Go.Eng.Fn.frame [] (by rfl) (by exact trivial) (by rfl) (less11 b c ?_)
      | refine Go.Eng.Fn.frame [] (by rfl) (by exact trivial) (by rfl) (less11 c b ?_)
      | refine Go.Eng.Fn.frame [] (by rfl) (by exact trivial) (by rfl) (less11 a c ?_)
      | refine Go.Eng.Fn.frame [] (by rfl) (by exact trivial) (by rfl) (less11 c a ?_)
      | rfl)
theorem top4 (W : World) (x : Int) (hx : IntKind.u64.min ≤ x ∧ x ≤ IntKind.u64.max) (y : Int) (hy : IntKind.u64.min ≤ y ∧ y ≤ IntKind.u64.max) (z : Int) (hz : IntKind.u64.min ≤ z ∧ z ≤ IntKind.u64.max) :
    Go.Eng.Fn Try.prog (roOf W) 4 [.a (.int .u64 x), .a (.int .u64 y), .a (.int .u64 z)] [] (fun v _ => v = .a (.bool true)) := by
  have h1 : (0 : Int) ≤ x := hx.1
  have h2 : (0 : Int) ≤ y := hy.1
  have h3 : (0 : Int) ≤ z := hz.1
  obtain ⟨a, rfl⟩ : ∃ a : Nat, x = a := ⟨x.toNat, by omega⟩
  obtain ⟨b, rfl⟩ : ∃ b : Nat, y = b := ⟨y.toNat, by omega⟩
  obtain ⟨c, rfl⟩ : ∃ c : Nat, z = c := ⟨z.toNat, by omega⟩
  exact less4 a b c
end
end Go.Proofs.Ytmnimmhpclhmfaa.PC
