import Derived.Test.YtimddbgnaeeggaaDoorKI
import Derived.Test.YtimddbgnaeeggaaDoorKU
import Derived.Test.YtimddbgnaeeggaaDoorKO
namespace Go.Proofs.YtimddbgnaeeggaaDoor.KD
open Go.Eng
set_option maxRecDepth 100000
/-! ### What a tally's bytes are. -/
def encT (c : List Nat) : Nat → Nat → List UInt8
  | _, 0 => []
  | i, n + 1 => ent c i ++ encT c (i + 1) n
theorem encT_zero {c : List Nat} : ∀ (n i : Nat), (∀ j, i ≤ j → j < i + n → ent c j = []) → encT c i n = []
  | 0, i, _ => rfl
  | n + 1, i, h => by
    show ent c i ++ encT c (i + 1) n = []
    rw [h i (by omega) (by omega), encT_zero n (i + 1) (fun j h1 h2 => h j (by omega) (by omega))]; rfl
theorem encT_skip {c : List Nat} : ∀ (k i n : Nat), (∀ j, i ≤ j → j < i + k → ent c j = []) → encT c i (k + n) = encT c (i + k) n
  | 0, i, n, _ => by rw [Nat.zero_add]; rfl
  | k + 1, i, n, h => by
    rw [show k + 1 + n = (k + n) + 1 by omega]
    show ent c i ++ encT c (i + 1) (k + n) = _
    rw [h i (by omega) (by omega), List.nil_append, encT_skip k (i + 1) n (fun j h1 h2 => h j (by omega) (by omega))]
    congr 1; omega
theorem ent_of_zero {c : List Nat} {j : Nat} (h0 : c[j * 2]? = some 0) (h1 : c[j * 2 + 1]? = some 0) : ent c j = [] := ent_zero h0 h1 ⟨rfl, rfl⟩
theorem upd_get {c : List Nat} {i u d k : Nat} (h : i * 2 + 2 ≤ c.length) : (upd c i u d)[k]? = if k = i * 2 then some u else if k = i * 2 + 1 then some d else c[k]? := by
  have hl : (c.take (i * 2)).length = i * 2 := by rw [List.length_take]; omega
  unfold upd
  by_cases h1 : k < i * 2
  · rw [if_neg (by omega), if_neg (by omega), List.append_assoc, List.getElem?_append_left (by omega), List.getElem?_take_of_lt h1]
  · rw [List.append_assoc, List.getElem?_append_right (by omega), hl]
    by_cases h2 : k = i * 2
    · rw [if_pos h2, h2, Nat.sub_self]; rfl
    · rw [if_neg h2]
      by_cases h3 : k = i * 2 + 1
      · rw [if_pos h3, h3, show i * 2 + 1 - i * 2 = 1 by omega]; rfl
      · rw [if_neg h3]
        obtain ⟨m, hm⟩ : ∃ m, k = i * 2 + (m + 2) := ⟨k - i * 2 - 2, by omega⟩
        rw [hm, Nat.add_sub_cancel_left]
        show (c.drop (i * 2 + 2))[m]? = _
        rw [List.getElem?_drop]
        congr 1; omega
theorem be_two (a b : UInt8) : be 2 (hiN [a, b]) = [a, b] := be_hiN [a, b]
theorem tal_conv (T : List UInt8) (last : Nat) (c : List Nat) (c' : List Nat) (h : tal T last c = (c', true)) (hT : T.length % 5 = 0) (hl : last ≤ 5) (hc : c.length = 12) (hlt : ∀ n ∈ c, n < 65536)
    (hz : ∀ k, last * 2 + 2 ≤ k → k < 12 → c[k]? = some 0) :
    T = encT c' (last + 1) (5 - last) ∧ c'.length = 12 ∧ (∀ n ∈ c', n < 65536) ∧ ∀ k, k < last * 2 + 2 → c'[k]? = c[k]? := by
  match T, h with
  | [], h =>
    unfold tal at h
    injection h with h _
    subst h
    refine ⟨?_, hc, hlt, fun k _ => rfl⟩
    rw [encT_zero]
    intro j h1 h2
    exact ent_of_zero (hz _ (by omega) (by omega)) (hz _ (by omega) (by omega))
  | [_], h => simp at hT
  | [_, _], h => simp at hT
  | [_, _, _], h => simp at hT
  | [_, _, _, _], h => simp at hT
  | i :: a :: b :: d :: e :: R, h =>
    have hi := i.toNat_lt
    rw [tal] at h
    by_cases q : i.toNat ≤ last ∨ 5 < i.toNat ∨ (hiN [a, b] = 0 ∧ hiN [d, e] = 0)
    · rw [if_pos q] at h
      injection h with _ h
      cases h
    · rw [if_neg q] at h
      have q1 : ¬ i.toNat ≤ last := fun x => q (.inl x)
      have q2 : ¬ 5 < i.toNat := fun x => q (.inr (.inl x))
      have q3 : ¬ (hiN [a, b] = 0 ∧ hiN [d, e] = 0) := fun x => q (.inr (.inr x))
      have hR : R.length % 5 = 0 := by simp at hT; omega
      have hu16 : hiN [a, b] < 65536 := hiN_lt _
      have hd16 : hiN [d, e] < 65536 := hiN_lt _
      obtain ⟨e1, e2, e3, e4⟩ := tal_conv R i.toNat _ c' h hR (by omega) (by rw [upd_len _ _ (by omega)]; exact hc) (upd_lt hlt hu16 hd16) (fun k h1 h2 => by
        rw [upd_get (by omega), if_neg (by omega), if_neg (by omega)]; exact hz k (by omega) h2)
      have g0 : c'[i.toNat * 2]? = some (hiN [a, b]) := by rw [e4 _ (by omega), upd_get (by omega), if_pos rfl]
      have g1 : c'[i.toNat * 2 + 1]? = some (hiN [d, e]) := by rw [e4 _ (by omega), upd_get (by omega), if_neg (by omega), if_pos rfl]
      have gk : ∀ k, k < i.toNat * 2 → c'[k]? = c[k]? := fun k hk => by rw [e4 k (by omega), upd_get (by omega), if_neg (by omega), if_neg (by omega)]
      refine ⟨?_, e2, e3, fun k hk => gk k (by omega)⟩
      rw [show 5 - last = (i.toNat - last - 1) + ((5 - i.toNat) + 1) by omega, encT_skip]
      · rw [show last + 1 + (i.toNat - last - 1) = i.toNat by omega]
        show _ = ent c' i.toNat ++ encT c' (i.toNat + 1) (5 - i.toNat)
        rw [← e1, ent_some g0 g1 q3, be_two, be_two]
        simp
      · intro j h1 h2
        exact ent_of_zero (by rw [gk _ (by omega)]; exact hz _ (by omega) (by omega)) (by rw [gk _ (by omega)]; exact hz _ (by omega) (by omega))
termination_by T.length
decreasing_by simp only [List.length_cons]; omega
theorem tally_conv {T : List UInt8} {c : List Nat} (h : tallyP T = (c, true)) : Ct c ∧ T = encC c 6 := by
  unfold tallyP at h
  split at h
  · rename_i h5
    obtain ⟨e1, e2, e3, e4⟩ := tal_conv T 0 zeros c h h5 (by decide) rfl (by decide) (fun k h1 h2 => by unfold zeros; rw [List.getElem?_replicate, if_pos h2])
    have z0 : c[0]? = some 0 := e4 0 (by decide)
    have z1 : c[1]? = some 0 := e4 1 (by decide)
    refine ⟨⟨e2, e3, z0, z1⟩, ?_⟩
    rw [e1]
    have e0 : ent c 0 = [] := ent_of_zero z0 z1
    simp only [encT, encC, e0, List.nil_append, List.append_nil, List.append_assoc]
  · injection h with _ h
    cases h
end Go.Proofs.YtimddbgnaeeggaaDoor.KD
