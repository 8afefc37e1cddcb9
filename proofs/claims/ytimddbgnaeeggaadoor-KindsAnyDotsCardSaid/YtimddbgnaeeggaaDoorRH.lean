import Derived.Test.YtimddbgnaeeggaaDoorRF
namespace Go.Proofs.YtimddbgnaeeggaaDoor.KD
open Go.Eng
set_option maxRecDepth 100000
theorem pe_ent {c : List Nat} {i u d : Nat} (R : List UInt8) (hi : i < 256) (hu : c[i * 2]? = some u) (hd : c[i * 2 + 1]? = some d) (hu16 : u < 65536) (hd16 : d < 65536) :
    pe (ent c i ++ R) = (if u = 0 ∧ d = 0 then [] else [⟨i, u, d⟩]) ++ pe R := by
  by_cases q : u = 0 ∧ d = 0
  · rw [ent_zero hu hd q, if_pos q]; rfl
  · rw [ent_some hu hd q, if_neg q, be2_eq, be2_eq]
    show pe (UInt8.ofNat i :: UInt8.ofNat (u / 256) :: UInt8.ofNat u :: UInt8.ofNat (d / 256) :: UInt8.ofNat d :: R) = _
    rw [pe_cons, hi2 hu16, hi2 hd16]
    have : (UInt8.ofNat i).toNat = i := by simp; omega
    rw [this]; rfl
theorem sumE_app (E F : List Cn) : sumE (E ++ F) = sumE E + sumE F := by
  induction E with
  | nil => simp [sumE]
  | cons x E ih =>
    show (x.up : Int) - x.down + sumE (E ++ F) = (x.up : Int) - x.down + sumE E + sumE F
    rw [ih]; omega
theorem sumE_if (i u d : Nat) : sumE (if u = 0 ∧ d = 0 then [] else [⟨i, u, d⟩]) = (u : Int) - d := by
  split
  · rename_i h; rw [h.1, h.2]; rfl
  · show (u : Int) - d + 0 = _; omega
theorem cnt_if (E : List Cn) (i u d r : Nat) : cnt ((if u = 0 ∧ d = 0 then [] else [⟨i, u, d⟩]) ++ E) r = if i = r ∧ ¬ (u = 0 ∧ d = 0) then ⟨i, u, d⟩ else cnt E r := by
  by_cases h : u = 0 ∧ d = 0
  · rw [if_pos h, if_neg (fun x => x.2 h)]; rfl
  · rw [if_neg h]
    show (if i = r then _ else _) = _
    by_cases hr : i = r
    · rw [if_pos hr, if_pos ⟨hr, h⟩]
    · rw [if_neg hr, if_neg (fun x => hr x.1)]; rfl
theorem pe_enc {c : List Nat} (h : Ct c) : ∃ a1 b1 a2 b2 a3 b3 a4 b4 a5 b5, c = [0, 0, a1, b1, a2, b2, a3, b3, a4, b4, a5, b5] ∧
    pe (encC c 6) = (if a1 = 0 ∧ b1 = 0 then [] else [⟨1, a1, b1⟩]) ++ ((if a2 = 0 ∧ b2 = 0 then [] else [⟨2, a2, b2⟩]) ++ ((if a3 = 0 ∧ b3 = 0 then [] else [⟨3, a3, b3⟩]) ++ ((if a4 = 0 ∧ b4 = 0 then [] else [⟨4, a4, b4⟩]) ++ ((if a5 = 0 ∧ b5 = 0 then [] else [⟨5, a5, b5⟩]) ++ [])))) := by
  have hlt := h.lt
  obtain ⟨a1, b1, a2, b2, a3, b3, a4, b4, a5, b5, rfl⟩ := h.shape
  refine ⟨a1, b1, a2, b2, a3, b3, a4, b4, a5, b5, rfl, ?_⟩
  have g : ∀ x ∈ [a1, b1, a2, b2, a3, b3, a4, b4, a5, b5], x < 65536 := fun x hx => hlt x (List.mem_cons_of_mem _ (List.mem_cons_of_mem _ hx))
  simp only [List.mem_cons, List.not_mem_nil, or_false, forall_eq_or_imp, forall_eq] at g
  obtain ⟨g1, g2, g3, g4, g5, g6, g7, g8, g9, g10⟩ := g
  have e0 : ent [0, 0, a1, b1, a2, b2, a3, b3, a4, b4, a5, b5] 0 = [] := ent_zero (u := 0) (d := 0) rfl rfl ⟨rfl, rfl⟩
  have e : encC [0, 0, a1, b1, a2, b2, a3, b3, a4, b4, a5, b5] 6 = ent [0, 0, a1, b1, a2, b2, a3, b3, a4, b4, a5, b5] 1 ++ (ent [0, 0, a1, b1, a2, b2, a3, b3, a4, b4, a5, b5] 2 ++ (ent [0, 0, a1, b1, a2, b2, a3, b3, a4, b4, a5, b5] 3 ++ (ent [0, 0, a1, b1, a2, b2, a3, b3, a4, b4, a5, b5] 4 ++ (ent [0, 0, a1, b1, a2, b2, a3, b3, a4, b4, a5, b5] 5 ++ [])))) := by
    simp only [encC, e0, List.nil_append, List.append_nil, List.append_assoc]
  have en : pe [] = [] := by rw [pe]; intros; contradiction
  rw [e, pe_ent (i := 1) _ (by decide) rfl rfl g1 g2, pe_ent (i := 2) _ (by decide) rfl rfl g3 g4, pe_ent (i := 3) _ (by decide) rfl rfl g5 g6, pe_ent (i := 4) _ (by decide) rfl rfl g7 g8, pe_ent (i := 5) _ (by decide) rfl rfl g9 g10, en]
theorem sumE_enc {c : List Nat} (h : Ct c) : sumE (pe (encC c 6)) = sumC c 6 := by
  obtain ⟨a1, b1, a2, b2, a3, b3, a4, b4, a5, b5, rfl, e⟩ := pe_enc h
  rw [e, sumC_6]
  simp only [sumE_app, sumE_if, sumE]
  omega
end Go.Proofs.YtimddbgnaeeggaaDoor.KD
