import Derived.Test.YtimddbgnaeeggaaDoorKG
namespace Go.Proofs.YtimddbgnaeeggaaDoor.KD
open Go.Eng
set_option maxRecDepth 100000
/-- Counts as a tally has them: of nobody else than the five. -/
structure Ct (c : List Nat) : Prop where
  len : c.length = 12
  lt : ∀ n ∈ c, n < 65536
  z0 : c[0]? = some 0
  z1 : c[1]? = some 0
theorem be2_eq (u : Nat) : be 2 u = [UInt8.ofNat (u / 256), UInt8.ofNat u] := by
  rw [be_s, be_s, be_0]
  simp
theorem hi2 {u : Nat} (h : u < 65536) : hiN [UInt8.ofNat (u / 256), UInt8.ofNat u] = u := by
  rw [← be2_eq, hiN_be]
  exact Nat.mod_eq_of_lt h
theorem tal_ent {c s : List Nat} {i u d last : Nat} (R : List UInt8) (hi : 1 ≤ i ∧ i ≤ 5) (hl : last < i) (hu : c[i * 2]? = some u) (hd : c[i * 2 + 1]? = some d) (hu16 : u < 65536) (hd16 : d < 65536) (hz : upd s i 0 0 = s) :
    ∃ last', last' ≤ i ∧ tal (ent c i ++ R) last s = tal R last' (upd s i u d) := by
  by_cases q : u = 0 ∧ d = 0
  · refine ⟨last, by omega, ?_⟩
    rw [ent_zero hu hd q, q.1, q.2, hz]; rfl
  · refine ⟨i, Nat.le_refl _, ?_⟩
    rw [ent_some hu hd q, be2_eq, be2_eq]
    have hin : (UInt8.ofNat i).toNat = i := by simp; omega
    show (if _ then _ else _) = _
    rw [hi2 hu16, hi2 hd16, hin, if_neg (by rintro (h | h | h); omega; omega; exact q h)]; rfl
theorem ent_mod (c : List Nat) (i : Nat) : (ent c i).length % 5 = 0 := by
  unfold ent
  split
  · rfl
  · simp [be_length]
theorem encC_mod (c : List Nat) : ∀ i, (encC c i).length % 5 = 0
  | 0 => rfl
  | i + 1 => by
    have := encC_mod c i
    have := ent_mod c i
    show (encC c i ++ ent c i).length % 5 = 0
    rw [List.length_append]; omega
theorem Ct.shape {c : List Nat} (h : Ct c) : ∃ a1 b1 a2 b2 a3 b3 a4 b4 a5 b5, c = [0, 0, a1, b1, a2, b2, a3, b3, a4, b4, a5, b5] := by
  obtain ⟨hl, _, h0, h1⟩ := h
  match c, hl with
  | [x, y, a1, b1, a2, b2, a3, b3, a4, b4, a5, b5], _ =>
    obtain rfl : x = 0 := by simpa using h0
    obtain rfl : y = 0 := by simpa using h1
    exact ⟨_, _, _, _, _, _, _, _, _, _, rfl⟩
theorem tallyP_enc {c : List Nat} (h : Ct c) : tallyP (encC c 6) = (c, true) := by
  unfold tallyP
  rw [if_pos (encC_mod c 6)]
  have hlt := h.lt
  obtain ⟨a1, b1, a2, b2, a3, b3, a4, b4, a5, b5, rfl⟩ := h.shape
  have e : encC [0, 0, a1, b1, a2, b2, a3, b3, a4, b4, a5, b5] 6 = ent [0, 0, a1, b1, a2, b2, a3, b3, a4, b4, a5, b5] 1 ++ (ent [0, 0, a1, b1, a2, b2, a3, b3, a4, b4, a5, b5] 2 ++ (ent [0, 0, a1, b1, a2, b2, a3, b3, a4, b4, a5, b5] 3 ++ (ent [0, 0, a1, b1, a2, b2, a3, b3, a4, b4, a5, b5] 4 ++ (ent [0, 0, a1, b1, a2, b2, a3, b3, a4, b4, a5, b5] 5 ++ [])))) := by
    have e0 : ent [0, 0, a1, b1, a2, b2, a3, b3, a4, b4, a5, b5] 0 = [] := ent_zero (u := 0) (d := 0) rfl rfl ⟨rfl, rfl⟩
    simp only [encC, e0, List.nil_append, List.append_nil, List.append_assoc]
  rw [e]
  have g : ∀ x ∈ [a1, b1, a2, b2, a3, b3, a4, b4, a5, b5], x < 65536 := fun x hx => hlt x (List.mem_cons_of_mem _ (List.mem_cons_of_mem _ hx))
  simp only [List.mem_cons, List.not_mem_nil, or_false, forall_eq_or_imp, forall_eq] at g
  obtain ⟨g1, g2, g3, g4, g5, g6, g7, g8, g9, g10⟩ := g
  obtain ⟨l1, h1, e1⟩ := tal_ent (c := [0, 0, a1, b1, a2, b2, a3, b3, a4, b4, a5, b5]) (s := zeros) (i := 1) (last := 0) (ent [0, 0, a1, b1, a2, b2, a3, b3, a4, b4, a5, b5] 2 ++ (ent [0, 0, a1, b1, a2, b2, a3, b3, a4, b4, a5, b5] 3 ++ (ent [0, 0, a1, b1, a2, b2, a3, b3, a4, b4, a5, b5] 4 ++ (ent [0, 0, a1, b1, a2, b2, a3, b3, a4, b4, a5, b5] 5 ++ [])))) ⟨by decide, by decide⟩ (by decide) rfl rfl g1 g2 rfl
  rw [e1]
  have f1 : upd zeros 1 a1 b1 = [0, 0, a1, b1, 0, 0, 0, 0, 0, 0, 0, 0] := rfl
  rw [f1]
  obtain ⟨l2, h2, e2⟩ := tal_ent (c := [0, 0, a1, b1, a2, b2, a3, b3, a4, b4, a5, b5]) (s := [0, 0, a1, b1, 0, 0, 0, 0, 0, 0, 0, 0]) (i := 2) (last := l1) (ent [0, 0, a1, b1, a2, b2, a3, b3, a4, b4, a5, b5] 3 ++ (ent [0, 0, a1, b1, a2, b2, a3, b3, a4, b4, a5, b5] 4 ++ (ent [0, 0, a1, b1, a2, b2, a3, b3, a4, b4, a5, b5] 5 ++ []))) ⟨by decide, by decide⟩ (by omega) rfl rfl g3 g4 rfl
  rw [e2]
  have f2 : upd [0, 0, a1, b1, 0, 0, 0, 0, 0, 0, 0, 0] 2 a2 b2 = [0, 0, a1, b1, a2, b2, 0, 0, 0, 0, 0, 0] := rfl
  rw [f2]
  obtain ⟨l3, h3, e3⟩ := tal_ent (c := [0, 0, a1, b1, a2, b2, a3, b3, a4, b4, a5, b5]) (s := [0, 0, a1, b1, a2, b2, 0, 0, 0, 0, 0, 0]) (i := 3) (last := l2) (ent [0, 0, a1, b1, a2, b2, a3, b3, a4, b4, a5, b5] 4 ++ (ent [0, 0, a1, b1, a2, b2, a3, b3, a4, b4, a5, b5] 5 ++ [])) ⟨by decide, by decide⟩ (by omega) rfl rfl g5 g6 rfl
  rw [e3]
  have f3 : upd [0, 0, a1, b1, a2, b2, 0, 0, 0, 0, 0, 0] 3 a3 b3 = [0, 0, a1, b1, a2, b2, a3, b3, 0, 0, 0, 0] := rfl
  rw [f3]
  obtain ⟨l4, h4, e4⟩ := tal_ent (c := [0, 0, a1, b1, a2, b2, a3, b3, a4, b4, a5, b5]) (s := [0, 0, a1, b1, a2, b2, a3, b3, 0, 0, 0, 0]) (i := 4) (last := l3) (ent [0, 0, a1, b1, a2, b2, a3, b3, a4, b4, a5, b5] 5 ++ []) ⟨by decide, by decide⟩ (by omega) rfl rfl g7 g8 rfl
  rw [e4]
  have f4 : upd [0, 0, a1, b1, a2, b2, a3, b3, 0, 0, 0, 0] 4 a4 b4 = [0, 0, a1, b1, a2, b2, a3, b3, a4, b4, 0, 0] := rfl
  rw [f4]
  obtain ⟨l5, h5, e5⟩ := tal_ent (c := [0, 0, a1, b1, a2, b2, a3, b3, a4, b4, a5, b5]) (s := [0, 0, a1, b1, a2, b2, a3, b3, a4, b4, 0, 0]) (i := 5) (last := l4) [] ⟨by decide, by decide⟩ (by omega) rfl rfl g9 g10 rfl
  rw [e5]
  rfl
theorem told_inj {c d : List Nat} (hc : Ct c) (hd : Ct d) (h : toldP c = toldP d) : c = d := by
  have h1 : encC c 6 = encC d 6 := by
    unfold toldP at h
    injection h
  have := (tallyP_enc hc).symm.trans ((congrArg tallyP h1).trans (tallyP_enc hd))
  injection this
theorem toldP_eq (c : List Nat) : toldP c = 3 :: encC c 6 := rfl
theorem enc_le (c : List Nat) : (encC c 6).length ≤ 30 := encC_len c 6
theorem Ct.zeros : Ct zeros := ⟨rfl, by decide, rfl, rfl⟩
theorem told_zeros : toldP zeros = [3] := by
  unfold toldP
  congr 1
theorem Ct.set {c : List Nat} (h : Ct c) {k x : Nat} (hk : 2 ≤ k) (hx : x < 65536) : Ct (c.set k x) :=
  ⟨by rw [List.length_set]; exact h.len, set_lt h.lt hx, by rw [List.getElem?_set_ne (by omega)]; exact h.z0, by rw [List.getElem?_set_ne (by omega)]; exact h.z1⟩
theorem Ct.mx {c d : List Nat} (h : Ct c) (h' : Ct d) : Ct (mxC c d) :=
  ⟨mxC_len h.len h'.len, mxC_lt h.lt h'.lt, by unfold mxC; rw [List.getElem?_zipWith, h.z0, h'.z0]; rfl, by unfold mxC; rw [List.getElem?_zipWith, h.z1, h'.z1]; rfl⟩
theorem mx_set {c : List Nat} {k x y : Nat} (h : c[k]? = some y) (hxy : y ≤ x) : mxC c (c.set k x) = c.set k x := by
  apply List.ext_getElem?
  intro j
  unfold mxC
  rw [List.getElem?_zipWith]
  by_cases hj : j = k
  · subst hj
    obtain ⟨h1, _⟩ := List.getElem?_eq_some_iff.1 h
    rw [List.getElem?_set_self h1, h]
    show some (max y x) = some x
    congr 1; omega
  · rw [List.getElem?_set_ne (by omega)]
    cases hc : c[j]? with
    | none => rfl
    | some z => simp
theorem sumC_6 (x y a1 b1 a2 b2 a3 b3 a4 b4 a5 b5 : Nat) : sumC [x, y, a1, b1, a2, b2, a3, b3, a4, b4, a5, b5] 6 = ((x : Int) - y) + ((a1 : Int) - b1) + ((a2 : Int) - b2) + ((a3 : Int) - b3) + ((a4 : Int) - b4) + ((a5 : Int) - b5) := by
  simp [sumC]
theorem sumC_set {c : List Nat} (h : Ct c) {r w x y : Nat} (hr : 1 ≤ r ∧ r ≤ 5) (hw : w < 2) (hy : c[r * 2 + w]? = some y) : sumC (c.set (r * 2 + w) x) 6 = sumC c 6 + (if w = 0 then (x : Int) - y else (y : Int) - x) := by
  obtain ⟨a1, b1, a2, b2, a3, b3, a4, b4, a5, b5, rfl⟩ := h.shape
  have hr' : r = 1 ∨ r = 2 ∨ r = 3 ∨ r = 4 ∨ r = 5 := by omega
  have hw' : w = 0 ∨ w = 1 := by omega
  rcases hr' with rfl | rfl | rfl | rfl | rfl <;> rcases hw' with rfl | rfl
  all_goals
    injection hy with hy
    subst hy
    simp only [Nat.reduceMul, Nat.reduceAdd, List.set_cons_succ, List.set_cons_zero, sumC_6, if_true]
    simp
    omega
/-- Counts of the first two replicas; of the others. -/
def Lo (c : List Nat) : Prop := ∀ k, 6 ≤ k → k < 12 → c[k]? = some 0
def Hi (c : List Nat) : Prop := ∀ k, k < 6 → c[k]? = some 0
theorem lo_zeros : Lo zeros := by
  intro k _ h
  unfold zeros
  rw [List.getElem?_replicate, if_pos h]
theorem hi_zeros : Hi zeros := by
  intro k h
  unfold zeros
  rw [List.getElem?_replicate, if_pos (by omega)]
theorem Lo.set {c : List Nat} (h : Lo c) {k x : Nat} (hk : k < 6) : Lo (c.set k x) := by
  intro j h1 h2
  rw [List.getElem?_set_ne (by omega)]; exact h j h1 h2
theorem Hi.set {c : List Nat} (h : Hi c) {k x : Nat} (hk : 6 ≤ k) : Hi (c.set k x) := by
  intro j h1
  rw [List.getElem?_set_ne (by omega)]; exact h j h1
theorem sumC_mx {a b : List Nat} (ha : Ct a) (hb : Ct b) (hl : Lo a) (hh : Hi b) : sumC (mxC a b) 6 = sumC a 6 + sumC b 6 := by
  obtain ⟨a1, b1, a2, b2, a3, b3, a4, b4, a5, b5, rfl⟩ := ha.shape
  obtain ⟨c1, d1, c2, d2, c3, d3, c4, d4, c5, d5, rfl⟩ := hb.shape
  have l6 := hl 6 (by omega) (by omega)
  have l7 := hl 7 (by omega) (by omega)
  have l8 := hl 8 (by omega) (by omega)
  have l9 := hl 9 (by omega) (by omega)
  have l10 := hl 10 (by omega) (by omega)
  have l11 := hl 11 (by omega) (by omega)
  have h2 := hh 2 (by omega)
  have h3 := hh 3 (by omega)
  have h4 := hh 4 (by omega)
  have h5 := hh 5 (by omega)
  injection l6 with l6
  injection l7 with l7
  injection l8 with l8
  injection l9 with l9
  injection l10 with l10
  injection l11 with l11
  injection h2 with h2
  injection h3 with h3
  injection h4 with h4
  injection h5 with h5
  subst l6 l7 l8 l9 l10 l11 h2 h3 h4 h5
  show sumC [max 0 0, max 0 0, max a1 0, max b1 0, max a2 0, max b2 0, max 0 c3, max 0 d3, max 0 c4, max 0 d4, max 0 c5, max 0 d5] 6 = _
  simp only [sumC_6, Nat.max_zero, Nat.zero_max]
  omega
end Go.Proofs.YtimddbgnaeeggaaDoor.KD
