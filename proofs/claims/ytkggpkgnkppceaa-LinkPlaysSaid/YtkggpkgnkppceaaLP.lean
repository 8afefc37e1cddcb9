import Derived.Test.YtkggpkgnkppceaaLI
namespace Go.Proofs.Ytkggpkgnkppceaa.LK
open Go.Eng
set_option maxRecDepth 100000
theorem num_length (n : Nat) : (num n).length = 4 := by unfold num; rfl
theorem num_less {a b : Nat} (ha : a < 4294967296) (hb : b < 4294967296) (h : Op.bytesLess (num b) (num a) = true) : b < a := by
  unfold num at h
  simp only [Op.bytesLess, Bool.or_eq_true, Bool.and_eq_true, decide_eq_true_eq, beq_iff_eq, UInt8.lt_iff_toNat_lt, ← UInt8.toNat_inj, UInt8.toNat_ofNat', Bool.or_false, Bool.and_false] at h
  omega
theorem num_inj {a b : Nat} (ha : a < 4294967296) (hb : b < 4294967296) (h : num b = num a) : b = a := by
  unfold num at h
  simp only [List.cons.injEq, and_true, ← UInt8.toNat_inj, UInt8.toNat_ofNat'] at h
  omega
/-- A later number does not stand ahead of an earlier one. -/
theorem num_ord {a b : Nat} (hab : a < b) (hb : b < 4294967296) : (Op.bytesLess (num b) (num a) || num b == num a) = false := by
  rw [Bool.or_eq_false_iff]
  refine ⟨?_, ?_⟩
  · cases h : Op.bytesLess (num b) (num a) with
    | false => rfl
    | true => exact absurd (num_less (by omega) hb h) (by omega)
  · rw [beq_eq_false_iff_ne]
    intro h
    have := num_inj (by omega) hb h
    omega
/-- The flights as LinkOrder has them: each bears a number, the numbers grow, all are below the count. -/
def Ord (sent : Nat) (L : List Fl) : Prop := ∃ ks : List Nat, L.map Fl.s = ks.map (fun k => (⟨(num k).toArray⟩ : ByteArray)) ∧ ks.Pairwise (· < ·) ∧ ∀ k ∈ ks, k < sent
theorem Ord.nil : Ord 0 [] := ⟨[], rfl, List.Pairwise.nil, fun _ h => by cases h⟩
theorem Ord.send {sent : Nat} {L : List Fl} {f t : UInt8} (h : Ord sent L) : Ord (sent + 1) (L ++ [⟨f, t, ⟨(num sent).toArray⟩⟩]) := by
  obtain ⟨ks, h1, h2, h3⟩ := h
  refine ⟨ks ++ [sent], by simp [h1], ?_, fun k hk => ?_⟩
  · rw [List.pairwise_append]
    exact ⟨h2, List.pairwise_singleton _ _, fun a ha b hb => by rw [List.mem_singleton] at hb; subst hb; exact h3 a ha⟩
  · rcases List.mem_append.1 hk with hk | hk
    · exact Nat.lt_succ_of_lt (h3 k hk)
    · rw [List.mem_singleton] at hk; omega
theorem Ord.more {sent : Nat} {L : List Fl} (h : Ord sent L) : Ord (sent + 1) L := by
  obtain ⟨ks, h1, h2, h3⟩ := h
  exact ⟨ks, h1, h2, fun k hk => Nat.lt_succ_of_lt (h3 k hk)⟩
theorem sub_map {α β : Type} (g : α → β) : ∀ (ks : List α) (M : List β), M.Sublist (ks.map g) → ∃ js : List α, js.Sublist ks ∧ M = js.map g
  | [], M, h => by
    have : M = [] := by simpa using h
    exact ⟨[], List.Sublist.refl _, this⟩
  | k :: ks, M, h => by
    rw [List.map_cons] at h
    cases h with
    | cons _ h =>
      obtain ⟨js, h1, h2⟩ := sub_map g ks M h
      exact ⟨js, h1.cons k, h2⟩
    | cons_cons _ h =>
      rename_i M'
      obtain ⟨js, h1, h2⟩ := sub_map g ks M' h
      exact ⟨k :: js, h1.cons_cons k, by rw [h2]; rfl⟩
theorem Ord.sub {sent : Nat} {L M : List Fl} (h : Ord sent L) (hs : M.Sublist L) : Ord sent M := by
  obtain ⟨ks, h1, h2, h3⟩ := h
  have hm := hs.map Fl.s
  rw [h1] at hm
  obtain ⟨js, h4, h5⟩ := sub_map _ ks _ hm
  exact ⟨js, h5, h2.sublist h4, fun k hk => h3 k (h4.subset hk)⟩
theorem Ord.erase {sent : Nat} {L : List Fl} (h : Ord sent L) (i : Nat) : Ord sent (L.eraseIdx i) := h.sub (List.eraseIdx_sublist L i)
theorem Ord.cut {sent : Nat} {L : List Fl} (h : Ord sent L) (p : Fl → Bool) : Ord sent (L.filter p) := h.sub List.filter_sublist
end Go.Proofs.Ytkggpkgnkppceaa.LK
