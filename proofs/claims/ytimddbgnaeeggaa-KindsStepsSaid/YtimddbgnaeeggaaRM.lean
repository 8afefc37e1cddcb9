import Derived.Test.YtimddbgnaeeggaaRK
namespace Go.Proofs.Ytimddbgnaeeggaa.KD
open Go.Eng
set_option maxRecDepth 100000
theorem cnt_enc {c : List Nat} (h : Ct c) {q u v : Nat} (hq : 1 ≤ q ∧ q ≤ 5) (hu : c[q * 2]? = some u) (hv : c[q * 2 + 1]? = some v) : cnt (pe (encC c 6)) q = ⟨q, u, v⟩ := by
  obtain ⟨a1, b1, a2, b2, a3, b3, a4, b4, a5, b5, rfl, e⟩ := pe_enc h
  rw [e]
  simp only [cnt_if, cnt]
  obtain ⟨h1, h2⟩ := hq
  have hc : q = 1 ∨ q = 2 ∨ q = 3 ∨ q = 4 ∨ q = 5 := by omega
  rcases hc with rfl | rfl | rfl | rfl | rfl <;> (simp at hu hv; subst hu hv; simp; intro h1 h2; simp [h1, h2])
theorem cbs_enc {E : List Cn} {d : Cn} {c : List Nat} (h0 : c[0]? = some 0) (h1 : c[1]? = some 0) (h : ∀ q, 1 ≤ q → q ≤ 5 → ∃ u v, c[q * 2]? = some u ∧ c[q * 2 + 1]? = some v ∧ dOf E d q = ⟨q, u, v⟩) : ∀ i, i ≤ 5 → cbs (stE E d i) = encC c (i + 1) := by
  intro i
  induction i with
  | zero =>
    intro _
    show cbs [] = [] ++ ent c 0
    rw [ent_zero (u := 0) (d := 0) h0 h1 ⟨rfl, rfl⟩, cbs_nil]; rfl
  | succ i ih =>
    intro hi
    obtain ⟨u, v, hu, hv, hd⟩ := h (i + 1) (by omega) hi
    show cbs (stE E d i ++ (if (dOf E d (i + 1)).up = 0 ∧ (dOf E d (i + 1)).down = 0 then [] else [dOf E d (i + 1)])) = encC c (i + 1) ++ ent c (i + 1)
    rw [hd, ← ih (by omega)]
    by_cases z : u = 0 ∧ v = 0
    · rw [if_pos z, ent_zero hu hv z, List.append_nil, List.append_nil]
    · rw [if_neg z, ent_some hu hv z, cbs_snoc]; rfl
theorem step_enc {c : List Nat} (h : Ct c) {r u : Nat} {b : Int} (hr : 1 ≤ r ∧ r ≤ 5) (hu : c[r * 2 + (if b < 0 then 1 else 0)]? = some u) :
    ((65535 < (stepD (pe (encC c 6)) r b).up ∨ 65535 < (stepD (pe (encC c 6)) r b).down) ↔ 65535 < b.natAbs + u) ∧
    cbs (stE (pe (encC c 6)) (stepD (pe (encC c 6)) r b) 5) = encC (c.set (r * 2 + (if b < 0 then 1 else 0)) (b.natAbs + u)) 6 := by
  have hl := h.len
  obtain ⟨x, hx⟩ : ∃ x, c[r * 2]? = some x := ⟨_, List.getElem?_eq_getElem (by omega)⟩
  obtain ⟨y, hy⟩ : ∃ y, c[r * 2 + 1]? = some y := ⟨_, List.getElem?_eq_getElem (by omega)⟩
  have hx16 := h.lt x (List.mem_of_getElem? hx)
  have hy16 := h.lt y (List.mem_of_getElem? hy)
  have hc := cnt_enc h hr hx hy
  have key : ∀ (D : Cn) (k w : Nat), D.who = r → (k = r * 2 ∨ k = r * 2 + 1) → (c.set k w)[r * 2]? = some D.up → (c.set k w)[r * 2 + 1]? = some D.down → cbs (stE (pe (encC c 6)) D 5) = encC (c.set k w) 6 := by
    intro D k w hw hk h2 h3
    refine cbs_enc (by rw [List.getElem?_set_ne (by omega)]; exact h.z0) (by rw [List.getElem?_set_ne (by omega)]; exact h.z1) (fun q q1 q2 => ?_) 5 (Nat.le_refl 5)
    by_cases e : q = r
    · subst e
      refine ⟨D.up, D.down, h2, h3, ?_⟩
      unfold dOf
      rw [if_pos hw.symm]
      cases D
      simp_all
    · obtain ⟨x', hx'⟩ : ∃ x, c[q * 2]? = some x := ⟨_, List.getElem?_eq_getElem (by omega)⟩
      obtain ⟨y', hy'⟩ : ∃ y, c[q * 2 + 1]? = some y := ⟨_, List.getElem?_eq_getElem (by omega)⟩
      refine ⟨x', y', by rw [List.getElem?_set_ne (by omega)]; exact hx', by rw [List.getElem?_set_ne (by omega)]; exact hy', ?_⟩
      unfold dOf
      rw [if_neg (by rw [hw]; exact e)]
      exact cnt_enc h ⟨q1, q2⟩ hx' hy'
  unfold stepD
  rw [hc]
  by_cases b0 : b < 0
  · rw [if_pos b0] at hu
    rw [if_pos b0, if_neg (show ¬ b > 0 by omega)]
    rw [hy] at hu; injection hu with hu; subst hu
    have ea : b.natAbs = (-b).toNat := by omega
    refine ⟨?_, ?_⟩
    · show (65535 < x ∨ 65535 < y + (-b).toNat) ↔ _
      omega
    · refine key _ _ _ rfl (.inr rfl) ?_ ?_
      · rw [List.getElem?_set_ne (by omega)]; exact hx
      · rw [List.getElem?_set_self (by omega), ea, Nat.add_comm]
  · rw [if_neg b0] at hu
    rw [if_neg b0]
    rw [Nat.add_zero] at hu ⊢
    rw [hx] at hu; injection hu with hu; subst hu
    by_cases b1 : b > 0
    · rw [if_pos b1]
      have ea : b.natAbs = b.toNat := by omega
      refine ⟨?_, ?_⟩
      · show (65535 < x + b.toNat ∨ 65535 < y) ↔ _
        omega
      · refine key _ _ _ rfl (.inl rfl) ?_ ?_
        · rw [List.getElem?_set_self (by omega), ea, Nat.add_comm]
        · rw [List.getElem?_set_ne (by omega)]; exact hy
    · obtain rfl : b = 0 := by omega
      rw [if_neg (by decide)]
      refine ⟨?_, ?_⟩
      · show (65535 < x ∨ 65535 < y + 0) ↔ 65535 < 0 + x
        omega
      · refine key _ _ _ rfl (.inl rfl) ?_ ?_
        · rw [List.getElem?_set_self (by omega)]; show some (0 + x) = some x; rw [Nat.zero_add]
        · rw [List.getElem?_set_ne (by omega)]; exact hy
end Go.Proofs.Ytimddbgnaeeggaa.KD
