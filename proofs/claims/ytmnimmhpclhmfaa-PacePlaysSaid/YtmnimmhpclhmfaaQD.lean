import Derived.Test.YtmnimmhpclhmfaaQC
namespace Go.Proofs.Ytmnimmhpclhmfaa.PC
open Go.Eng
set_option maxRecDepth 100000
/-! What the program knows of a partner, and what the document does: the same, but for the bits of a share that is no number. -/
def ShEq (a b : Nat) : Prop := a = b ∨ (isNan a = true ∧ isNan b = true)
theorem ShEq.ans {o : Option Nat} {a b : Nat} (h : Ans o a) (h' : Ans o b) : ShEq a b := by
  rcases h with h | ⟨h, h1, _⟩ <;> rcases h' with h' | ⟨h', h2, _⟩
  · rw [h] at h'; injection h' with h'; exact .inl h'
  · rw [h] at h'; cases h'
  · rw [h] at h'; cases h'
  · exact .inr ⟨h1, h2⟩
def Rel (x x' : Pt) : Prop := ∃ s, x' = { x with share := s } ∧ ShEq x.share s
theorem add_nan_l {a b : Nat} (h : isNan a = true) : FloatKind.f64.format.add a b = none := by
  obtain ⟨s, t, e⟩ := read_isNan h
  show ((Ieee.double.read a).sum (Ieee.double.read b)).map Ieee.double.write = none
  rw [e]; rfl
theorem Rel.score {x x' : Pt} (h : Rel x x') (now : Nat) : scoreO x' now = scoreO x now := by
  obtain ⟨s, rfl, hs⟩ := h
  unfold scoreO
  rcases hs with hs | ⟨h1, h2⟩
  · simp only [← hs]
  · simp only [add_nan_l h1, add_nan_l h2]
structure St (n : Nat) (P P' : List Pt) : Prop where
  len : n = P.length
  len' : n = P'.length
  le : 1 ≤ n ∧ n ≤ 5
  rel : ∀ (k : Nat) (x x' : Pt), P[k]? = some x → P'[k]? = some x' → Rel x x'
  good : ∀ x ∈ P, Good x
  dbl : ∀ x ∈ P, 0 ≤ x.dbl ∧ x.dbl ≤ 10
  stray : ∀ x ∈ P, x.stray < 18446744073709551616
theorem St.get {n : Nat} {P P' : List Pt} (h : St n P P') {k : Nat} {x : Pt} (hx : P[k]? = some x) : ∃ x', P'[k]? = some x' ∧ Rel x x' := by
  have hk := (List.getElem?_eq_some_iff.1 hx).1
  obtain ⟨x', hx'⟩ : ∃ x', P'[k]? = some x' := ⟨_, List.getElem?_eq_getElem (by have := h.len; have := h.len'; omega)⟩
  exact ⟨x', hx', h.rel k x x' hx hx'⟩
theorem St.get' {n : Nat} {P P' : List Pt} (h : St n P P') {k : Nat} {x' : Pt} (hx : P'[k]? = some x') : ∃ x, P[k]? = some x ∧ Rel x x' := by
  have hk := (List.getElem?_eq_some_iff.1 hx).1
  obtain ⟨x, hx'⟩ : ∃ x, P[k]? = some x := ⟨_, List.getElem?_eq_getElem (by have := h.len; have := h.len'; omega)⟩
  exact ⟨x, hx', h.rel k x x' hx' hx⟩
theorem MR.share {x : Pt} {lo hi : Nat} (h : MR x lo hi) (d : Nat) : MR { x with share := d } lo hi := by
  cases h with
  | new h l u => exact .new h l u
  | old h l m u s hl hm hu hs h1 h2 => exact .old h l m u s hl hm hu hs h1 h2
theorem Rel.good {x x' : Pt} (h : Rel x x') (g : Good x) : Good x' := by
  obtain ⟨s, rfl, _⟩ := h
  obtain ⟨lo, hi, g⟩ := g
  exact ⟨lo, hi, g.share s⟩
theorem St.good' {n : Nat} {P P' : List Pt} (h : St n P P') : ∀ x ∈ P', Good x := fun x hx => by
  obtain ⟨k, hk⟩ := List.getElem?_of_mem hx
  obtain ⟨y, hy, r⟩ := h.get' hk
  exact r.good (h.good y (List.mem_of_getElem? hy))
theorem St.dbl' {n : Nat} {P P' : List Pt} (h : St n P P') : ∀ x ∈ P', 0 ≤ x.dbl ∧ x.dbl ≤ 10 := fun x hx => by
  obtain ⟨k, hk⟩ := List.getElem?_of_mem hx
  obtain ⟨y, hy, s, rfl, _⟩ := h.get' hk
  exact h.dbl y (List.mem_of_getElem? hy)
theorem St.stray' {n : Nat} {P P' : List Pt} (h : St n P P') : ∀ x ∈ P', x.stray < 18446744073709551616 := fun x hx => by
  obtain ⟨k, hk⟩ := List.getElem?_of_mem hx
  obtain ⟨y, hy, s, rfl, _⟩ := h.get' hk
  exact h.stray y (List.mem_of_getElem? hy)
theorem scoreA_none {P : List Pt} {i : Int} {now : Nat} (h : (if 1 ≤ i then P[(i - 1).toNat]? else none) = none) : scoreA P i now = none := by
  unfold scoreA; rw [h]
theorem St.score {n : Nat} {P P' : List Pt} (h : St n P P') (i : Int) (now : Nat) : scoreA P' i now = scoreA P i now := by
  by_cases hi : 1 ≤ i ∧ i ≤ n
  · obtain ⟨k, rfl⟩ : ∃ k : Nat, i = ((k + 1 : Nat) : Int) := ⟨(i - 1).toNat, by omega⟩
    obtain ⟨x, hx⟩ : ∃ x, P[k]? = some x := ⟨_, List.getElem?_eq_getElem (by have := h.len; omega)⟩
    obtain ⟨x', hx', r⟩ := h.get hx
    rw [scoreA_in hx, scoreA_in hx', r.score]
    obtain ⟨s, rfl, _⟩ := r
    rfl
  · rw [scoreA_out (by rw [← h.len']; exact hi), scoreA_out (by rw [← h.len]; exact hi)]
theorem St.sk {n : Nat} {P P' : List Pt} (h : St n P P') (now : Nat) : sk P' now = sk P now := by
  funext i
  unfold PC.sk
  rw [h.score]
theorem St.set {n : Nat} {P P' : List Pt} (h : St n P P') {k : Nat} {y y' : Pt} (r : Rel y y') (hg : Good y) (hd : 0 ≤ y.dbl ∧ y.dbl ≤ 10) (hs : y.stray < 18446744073709551616) : St n (P.set k y) (P'.set k y') := by
  refine ⟨by rw [List.length_set]; exact h.len, by rw [List.length_set]; exact h.len', h.le, fun j x x' hx hx' => ?_, fun x hx => ?_, fun x hx => ?_, fun x hx => ?_⟩
  · rw [List.getElem?_set] at hx hx'
    by_cases e : k = j
    · rw [if_pos e] at hx hx'
      split at hx
      · injection hx with hx
        split at hx'
        · injection hx' with hx'
          rw [← hx, ← hx']; exact r
        · cases hx'
      · cases hx
    · rw [if_neg e] at hx hx'
      exact h.rel j x x' hx hx'
  · rcases List.mem_or_eq_of_mem_set hx with hx | rfl
    · exact h.good x hx
    · exact hg
  · rcases List.mem_or_eq_of_mem_set hx with hx | rfl
    · exact h.dbl x hx
    · exact hd
  · rcases List.mem_or_eq_of_mem_set hx with hx | rfl
    · exact h.stray x hx
    · exact hs
theorem St.new {n : Nat} (h1 : 1 ≤ n) (h2 : n ≤ 5) : St n (List.replicate n p0) (List.replicate n p0) := by
  have hm : ∀ x ∈ List.replicate n p0, x = p0 := fun x hx => (List.mem_replicate.1 hx).2
  refine ⟨by simp, by simp, ⟨h1, h2⟩, fun k x x' hx hx' => ?_, fun x hx => by rw [hm x hx]; exact Good.p0, fun x hx => by rw [hm x hx]; decide, fun x hx => by rw [hm x hx]; decide⟩
  have e := hm x (List.mem_of_getElem? hx)
  have e' := hm x' (List.mem_of_getElem? hx')
  subst e e'
  exact ⟨0, rfl, .inl rfl⟩
theorem Rel.heard {x x' y y' : Pt} {t : Nat} (r : Rel x x') (hg : Good x) (ht : took t = true) (hy : HeardR x t y) (hy' : HeardR x' t y') : Rel y y' := by
  obtain ⟨s, rfl, hs⟩ := r
  obtain ⟨lo, hi, hM⟩ := hg
  obtain ⟨a, ha⟩ := took_at ht
  have h2 : HeardR x t { y' with share := x.share } := ⟨hy'.heard, hy'.dbl, hy'.ended, hy'.whn, rfl, hy'.first, hy'.later⟩
  have e := heard_det hM ha hy h2
  refine ⟨s, ?_, ?_⟩
  · rw [e]
    have hsh : y'.share = s := hy'.share
    cases y'
    simp_all
  · rw [hy.share]; exact hs
theorem HeardR.stray_lt {x y : Pt} {t : Nat} (h : HeardR x t y) : y.stray < 18446744073709551616 := by
  cases hh : x.heard with
  | false => exact (h.first hh).2.div_lt
  | true => obtain ⟨d, a, b, c, _, _, _, h1, _⟩ := h.later hh; exact h1.add_lt
theorem wt_share (x : Pt) (d : Nat) (k : Nat) : wt { x with share := d } k = wt x k := by unfold wt wb; rfl
end Go.Proofs.Ytmnimmhpclhmfaa.PC
