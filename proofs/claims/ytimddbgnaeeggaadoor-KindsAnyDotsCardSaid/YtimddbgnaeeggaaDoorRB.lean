import Derived.Test.YtimddbgnaeeggaaDoorRA
namespace Go.Proofs.YtimddbgnaeeggaaDoor.KD
open Go.Eng
set_option maxRecDepth 100000
/-- The reference's test and the program's are one. -/
theorem rgt_tal (T : List UInt8) (last : Nat) (c : List Nat) (h : T.length % 5 = 0) : rgt last (pe T) = (tal T last c).2 := by
  match T, h with
  | [], _ =>
    have e : pe [] = [] := by rw [pe]; intros; contradiction
    rw [e]; rfl
  | [_], h => simp at h
  | [_, _], h => simp at h
  | [_, _, _], h => simp at h
  | [_, _, _, _], h => simp at h
  | i :: a :: b :: d :: e :: R, h =>
    rw [pe_cons, tal]
    show (if i.toNat ≤ last ∨ 5 < i.toNat ∨ (hiN [a, b] = 0 ∧ hiN [d, e] = 0) then false else rgt i.toNat (pe R)) = _
    by_cases q : i.toNat ≤ last ∨ 5 < i.toNat ∨ (hiN [a, b] = 0 ∧ hiN [d, e] = 0)
    · rw [if_pos q, if_pos q]
    · rw [if_neg q, if_neg q]
      exact rgt_tal R i.toNat _ (by simp only [List.length_cons] at h; omega)
termination_by T.length
decreasing_by simp only [List.length_cons]; omega
theorem apC_tally (T : List UInt8) : apC T = (tallyP T).2 := by
  unfold apC tallyP
  by_cases h : T.length % 5 = 0
  · rw [decide_eq_true h, if_pos h, Bool.true_and]
    exact rgt_tal T 0 zeros h
  · rw [decide_eq_false h, if_neg h]; rfl
end Go.Proofs.YtimddbgnaeeggaaDoor.KD
