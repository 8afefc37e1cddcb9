import Derived.Test.YtkggpkgnkppceaaLU
namespace Go.Proofs.Ytkggpkgnkppceaa.LK
open Go.Eng
set_option maxRecDepth 100000
/-! ### Counts of flights. -/
noncomputable instance : DecidableEq Fl := fun a b => Classical.propDecidable (a = b)
/-- Each like stands once; of each as many as there are; none is missing. -/
structure Cnt (L : List Fl) (C : List Cf) : Prop where
  one : C.Pairwise (fun a b => a.x ≠ b.x)
  num : ∀ c ∈ C, c.n = ((L.count c.x : Nat) : Int)
  all : ∀ x ∈ L, ∃ c ∈ C, c.x = x
theorem Cnt.nil : Cnt [] [] := ⟨List.Pairwise.nil, fun _ h => by simp at h, fun _ h => by simp at h⟩
theorem Cnt.uniq {L : List Fl} {C : List Cf} (h : Cnt L C) {i j : Nat} {c d : Cf} (hi : C[i]? = some c) (hj : C[j]? = some d) (e : c.x = d.x) : i = j := by
  obtain ⟨hi', rfl⟩ := List.getElem?_eq_some_iff.1 hi
  obtain ⟨hj', rfl⟩ := List.getElem?_eq_some_iff.1 hj
  rcases Nat.lt_trichotomy i j with hlt | heq | hgt
  · exact absurd e (List.pairwise_iff_getElem.1 h.one i j hi' hj' hlt)
  · exact heq
  · exact absurd e.symm (List.pairwise_iff_getElem.1 h.one j i hj' hi' hgt)
theorem Cnt.perm {L M : List Fl} {C : List Cf} (h : Cnt L C) (p : M.Perm L) : Cnt M C :=
  ⟨h.one, fun c hc => by rw [h.num c hc, p.count_eq], fun x hx => h.all x (p.mem_iff.1 hx)⟩
theorem Cnt.bound {L : List Fl} {C : List Cf} (h : Cnt L C) (hL : L.length ≤ 1024) : ∀ c ∈ C, 0 ≤ c.n ∧ c.n ≤ 1024 := fun c hc => by
  rw [h.num c hc]
  have := List.count_le_length (a := c.x) (l := L)
  omega
theorem Cnt.ge {L : List Fl} {C : List Cf} (h : Cnt L C) : ∀ c ∈ C, 0 ≤ c.n := fun c hc => by rw [h.num c hc]; omega
/-- One entry gets the new count. -/
theorem Cnt.set {L M : List Fl} {C : List Cf} (h : Cnt L C) {i : Nat} {c : Cf} {x : Fl} {n : Int} (hi : C[i]? = some c) (hx : c.x = x) (hn : n = ((M.count x : Nat) : Int))
    (ho : ∀ y, y ≠ x → M.count y = L.count y) : Cnt M (C.set i ⟨x, n⟩) := by
  obtain ⟨hil, hie⟩ := List.getElem?_eq_some_iff.1 hi
  have key : ∀ (k : Nat) (d : Cf), (C.set i ⟨x, n⟩)[k]? = some d → ∃ d', C[k]? = some d' ∧ d'.x = d.x ∧ (k = i → d.n = n) ∧ (k ≠ i → d = d') := by
    intro k d hk
    rw [List.getElem?_set] at hk
    by_cases e : i = k
    · subst e
      rw [if_pos rfl, if_pos hil] at hk
      injection hk with hk
      subst hk
      exact ⟨c, hi, hx, fun _ => rfl, fun e => absurd rfl e⟩
    · rw [if_neg e] at hk
      exact ⟨d, hk, rfl, fun e' => absurd e'.symm e, fun _ => rfl⟩
  refine ⟨?_, ?_, ?_⟩
  · rw [List.pairwise_iff_getElem]
    intro a b ha hb hab e
    obtain ⟨d1, g1, e1, _⟩ := key a _ (List.getElem?_eq_getElem ha)
    obtain ⟨d2, g2, e2, _⟩ := key b _ (List.getElem?_eq_getElem hb)
    have := h.uniq g1 g2 (by rw [e1, e2]; exact e)
    omega
  · intro d hd
    obtain ⟨k, hk⟩ := List.getElem?_of_mem hd
    obtain ⟨d', g, e, h1, h2⟩ := key k d hk
    by_cases ek : k = i
    · rw [h1 ek, hn]
      have : d'.x = c.x := by subst ek; rw [hi] at g; injection g with g; rw [g]
      rw [← e, this, hx]
    · have := h2 ek
      subst this
      rw [h.num d (List.mem_of_getElem? g), ho]
      intro ex
      exact ek (h.uniq g hi (by rw [ex, hx]))
  · intro y hy
    by_cases e : y = x
    · subst e
      exact ⟨⟨y, n⟩, List.mem_of_getElem? (by rw [List.getElem?_set, if_pos rfl, if_pos hil]), rfl⟩
    · have : 0 < L.count y := by rw [← ho y e]; exact List.count_pos_iff.2 hy
      obtain ⟨d, hd, hdx⟩ := h.all y (List.count_pos_iff.1 this)
      obtain ⟨k, hk⟩ := List.getElem?_of_mem hd
      have hne : i ≠ k := by
        intro ek
        subst ek
        rw [hi] at hk
        injection hk with hk
        subst hk
        exact e (hdx.symm.trans hx)
      exact ⟨d, List.mem_of_getElem? (i := k) (by rw [List.getElem?_set, if_neg hne]; exact hk), hdx⟩
theorem Cnt.more {L : List Fl} {C : List Cf} (h : Cnt L C) {i : Nat} {c : Cf} {x : Fl} (hi : C[i]? = some c) (hx : c.x = x) : Cnt (L ++ [x]) (C.set i ⟨x, c.n + 1⟩) := by
  refine h.set hi hx ?_ fun y hy => ?_
  · rw [h.num c (List.mem_of_getElem? hi), hx, List.count_append]
    simp
  · rw [List.count_append]
    simp [List.count_singleton]
    intro e
    exact absurd e.symm hy
theorem Cnt.fresh {L : List Fl} {C : List Cf} (h : Cnt L C) {x : Fl} (hx : ∀ c ∈ C, c.x ≠ x) : Cnt (L ++ [x]) (C ++ [⟨x, 1⟩]) := by
  have hxL : x ∉ L := fun hm => by obtain ⟨c, hc, e⟩ := h.all x hm; exact hx c hc e
  refine ⟨?_, ?_, ?_⟩
  · rw [List.pairwise_append]
    refine ⟨h.one, List.pairwise_singleton _ _, fun a ha b hb => ?_⟩
    rw [List.mem_singleton] at hb
    subst hb
    exact hx a ha
  · intro c hc
    rcases List.mem_append.1 hc with hc | hc
    · rw [h.num c hc, List.count_append]
      have : (([x] : List Fl).count c.x) = 0 := by
        rw [List.count_eq_zero]
        intro hm
        exact hx c hc (List.mem_singleton.1 hm)
      rw [this]; simp
    · rw [List.mem_singleton] at hc
      subst hc
      rw [List.count_append, List.count_eq_zero.2 hxL]
      simp
  · intro y hy
    rcases List.mem_append.1 hy with hy | hy
    · obtain ⟨c, hc, e⟩ := h.all y hy
      exact ⟨c, List.mem_append_left _ hc, e⟩
    · rw [List.mem_singleton] at hy
      subst hy
      exact ⟨⟨y, 1⟩, by simp, rfl⟩
theorem perm_erase {L : List Fl} {k : Nat} {x : Fl} (h : L[k]? = some x) : L.Perm (L.eraseIdx k ++ [x]) := by
  obtain ⟨hk, rfl⟩ := List.getElem?_eq_some_iff.1 h
  have e : L = L.take k ++ (L[k] :: L.drop (k + 1)) := by rw [← List.drop_eq_getElem_cons hk, List.take_append_drop]
  rw [List.eraseIdx_eq_take_drop_succ]
  generalize L[k] = x at *
  conv => lhs; rw [e]
  exact (List.perm_middle).trans (List.perm_append_singleton _ _).symm
theorem Cnt.less {L : List Fl} {C : List Cf} (h : Cnt L C) {i k : Nat} {c : Cf} {x : Fl} (hk : L[k]? = some x) (hi : C[i]? = some c) (hx : c.x = x) : Cnt (L.eraseIdx k) (C.set i ⟨x, c.n + -1⟩) := by
  have p := perm_erase hk
  refine h.set hi hx ?_ fun y hy => ?_
  · rw [h.num c (List.mem_of_getElem? hi), hx, p.count_eq, List.count_append]
    simp
    omega
  · rw [p.count_eq, List.count_append]
    simp [List.count_singleton]
    intro e
    exact hy e.symm
theorem set_self {L : List Fl} {i : Nat} {x : Fl} (h : L[i]? = some x) : L.set i x = L := by
  obtain ⟨hi, rfl⟩ := List.getElem?_eq_some_iff.1 h
  exact List.set_getElem_self hi
/-- Two change places. -/
theorem perm_swap {L : List Fl} {i j : Nat} {x u : Fl} (hi : L[i]? = some x) (hj : L[j]? = some u) : ((L.set i u).set j x).Perm L := by
  obtain ⟨hi', rfl⟩ := List.getElem?_eq_some_iff.1 hi
  obtain ⟨hj', rfl⟩ := List.getElem?_eq_some_iff.1 hj
  exact List.set_set_perm hi' hj'
theorem Cnt.turn {L : List Fl} {C : List Cf} (h : Cnt L C) {i j : Nat} {x u : Fl} (hi : L[i]? = some x) (hj : L[j]? = some u) : Cnt ((L.set i u).set j x) C := h.perm (perm_swap hi hj)
theorem Cnt.zero {C : List Cf} (h : Cnt [] C) : ∀ c ∈ C, c.n = 0 := fun c hc => by rw [h.num c hc]; simp
theorem Cnt.has {L : List Fl} {C : List Cf} (h : Cnt L C) {k : Nat} {x : Fl} (hk : L[k]? = some x) : ¬ ∀ c ∈ C, c.x ≠ x := fun hh => by
  obtain ⟨c, hc, e⟩ := h.all x (List.mem_of_getElem? hk)
  exact hh c hc e
/-! ### What Cut takes out. -/
def cz (o : UInt8) (c : Cf) : Cf := if hit o c.x then ⟨c.x, 0⟩ else c
def ck (o : UInt8) (c : Cf) : Int := if hit o c.x then c.n else 0
theorem cz_x (o : UInt8) (c : Cf) : (cz o c).x = c.x := by unfold cz; split <;> rfl
theorem Cnt.cut {L : List Fl} {C : List Cf} (h : Cnt L C) (o : UInt8) : Cnt (L.filter fun x => !hit o x) (C.map (cz o)) := by
  refine ⟨?_, ?_, ?_⟩
  · rw [List.pairwise_map]
    exact h.one.imp fun e => by rw [cz_x, cz_x]; exact e
  · intro d hd
    obtain ⟨c, hc, rfl⟩ := List.mem_map.1 hd
    rw [cz_x]
    unfold cz
    split
    · rename_i hh
      have : (L.filter fun x => !hit o x).count c.x = 0 := by
        rw [List.count_eq_zero]
        intro hm
        have := (List.mem_filter.1 hm).2
        rw [hh] at this
        cases this
      rw [this]; rfl
    · rename_i hh
      rw [List.count_filter (by simpa using hh)]
      exact h.num c hc
  · intro x hx
    obtain ⟨c, hc, e⟩ := h.all x (List.mem_filter.1 hx).1
    exact ⟨cz o c, List.mem_map_of_mem hc, by rw [cz_x]; exact e⟩
theorem sum_one (p : Fl → Bool) (a : Fl) : ∀ (K : List Fl), K.Nodup → (K.map fun x => if p x ∧ a = x then 1 else 0).sum = if p a ∧ a ∈ K then 1 else 0
  | [], _ => by simp
  | x :: K, h => by
    rw [List.nodup_cons] at h
    rw [List.map_cons, List.sum_cons, sum_one p a K h.2]
    by_cases e : a = x
    · subst e
      simp [h.1]
    · simp [e]
theorem sum_count (p : Fl → Bool) : ∀ (L K : List Fl), K.Nodup → (∀ x ∈ L, x ∈ K) → (K.map fun x => if p x then L.count x else 0).sum = L.countP p
  | [], K, _, _ => by
    rw [List.countP_nil]
    have : ∀ K : List Fl, (K.map fun x => if p x then ([] : List Fl).count x else 0).sum = 0 := by
      intro K
      induction K with
      | nil => rfl
      | cons x K ih => rw [List.map_cons, List.sum_cons, ih]; simp
    exact this K
  | a :: L, K, hn, hs => by
    have ih := sum_count p L K hn fun x hx => hs x (by simp [hx])
    have h1 := sum_one p a K hn
    have hsplit : ∀ (K : List Fl), (K.map fun x => if p x then (a :: L).count x else 0).sum = (K.map fun x => if p x then L.count x else 0).sum + (K.map fun x => if p x ∧ a = x then 1 else 0).sum := by
      intro K
      induction K with
      | nil => rfl
      | cons x K ihK =>
        have e1 : (if p x then (a :: L).count x else 0) = (if p x then L.count x else 0) + (if p x ∧ a = x then 1 else 0) := by
          rw [List.count_cons]
          by_cases hp : p x <;> by_cases e : a = x <;> simp [hp, e]
        rw [List.map_cons, List.sum_cons, ihK, e1, List.map_cons, List.sum_cons, List.map_cons, List.sum_cons]
        omega
    rw [hsplit, ih, h1, List.countP_cons]
    have : a ∈ K := hs a (by simp)
    simp [this]
theorem Cnt.sum {L : List Fl} {C : List Cf} (h : Cnt L C) (o : UInt8) : (C.map (ck o)).sum = ((L.countP (hit o) : Nat) : Int) := by
  have hn : (C.map Cf.x).Nodup := by rw [List.nodup_iff_pairwise_ne, List.pairwise_map]; exact h.one
  have hs : ∀ x ∈ L, x ∈ C.map Cf.x := fun x hx => by obtain ⟨c, hc, e⟩ := h.all x hx; exact List.mem_map.2 ⟨c, hc, e⟩
  rw [← sum_count (hit o) L _ hn hs]
  have : ∀ (D : List Cf), (∀ c ∈ D, c ∈ C) → (D.map (ck o)).sum = (((D.map Cf.x).map fun x => if hit o x then L.count x else 0).sum : Nat) := by
    intro D
    induction D with
    | nil => intro _; rfl
    | cons c D ih =>
      intro hD
      have i1 := ih fun d hd => hD d (by simp [hd])
      have i2 := h.num c (hD c (by simp))
      simp only [List.map_cons, List.sum_cons, i1, ck, i2]
      split <;> simp
  exact this C fun _ hc => hc
theorem cut_len (L : List Fl) (o : UInt8) : L.length - (L.filter fun x => !hit o x).length = L.countP (hit o) := by
  have h1 := List.length_eq_countP_add_countP (hit o) (l := L)
  have h2 : (L.filter fun x => !hit o x).length = L.countP fun x => !hit o x := by rw [List.countP_eq_length_filter]
  have h3 : (L.countP fun x => decide (¬ hit o x = true)) = L.countP fun x => !hit o x := by
    congr 1; funext x; cases hit o x <;> rfl
  omega
/-- The counts so far. -/
def ksum (o : UInt8) (C : List Cf) (j : Nat) : Int := ((C.take j).map (ck o)).sum
theorem ksum_succ {o : UInt8} {C : List Cf} {j : Nat} {c : Cf} (h : C[j]? = some c) : ksum o C (j + 1) = ksum o C j + ck o c := by
  unfold ksum
  rw [List.take_add_one, h]
  simp
theorem ksum_bound {L : List Fl} {C : List Cf} (h : Cnt L C) (hL : L.length ≤ 1024) (o : UInt8) (j : Nat) : 0 ≤ ksum o C j ∧ ksum o C j ≤ 1024 := by
  have ge : ∀ (D : List Cf), (∀ c ∈ D, c ∈ C) → 0 ≤ (D.map (ck o)).sum := by
    intro D
    induction D with
    | nil => intro _; exact Int.le_refl _
    | cons c D ih =>
      intro hD
      have i1 := ih fun d hd => hD d (by simp [hd])
      have i2 := h.ge c (hD c (by simp))
      simp only [List.map_cons, List.sum_cons, ck]
      split <;> omega
  have h1 := ge (C.take j) fun c hc => List.mem_of_mem_take hc
  have h2 := ge (C.drop j) fun c hc => List.mem_of_mem_drop hc
  have h3 := h.sum o
  have h4 : (C.map (ck o)).sum = ((C.take j).map (ck o)).sum + ((C.drop j).map (ck o)).sum := by
    rw [← List.sum_append, ← List.map_append, List.take_append_drop]
  have h5 := List.countP_le_length (p := hit o) (l := L)
  unfold ksum
  omega
/-- The list with its first j entries cut. -/
def cutTo (o : UInt8) (C : List Cf) (j : Nat) : List Cf := (C.take j).map (cz o) ++ C.drop j
theorem cutTo_length (o : UInt8) (C : List Cf) (j : Nat) : (cutTo o C j).length = C.length := by
  unfold cutTo
  rw [List.length_append, List.length_map, ← List.length_append, List.take_append_drop]
theorem cutTo_zero (o : UInt8) (C : List Cf) : cutTo o C 0 = C := by simp [cutTo]
theorem cutTo_get {o : UInt8} {C : List Cf} {j : Nat} {c : Cf} (h : C[j]? = some c) : (cutTo o C j)[j]? = some c := by
  have hj := (List.getElem?_eq_some_iff.1 h).1
  unfold cutTo
  rw [List.getElem?_append_right (by rw [List.length_map, List.length_take]; omega), List.length_map, List.length_take, Nat.min_eq_left (by omega), Nat.sub_self, List.getElem?_drop, Nat.add_zero]
  exact h
theorem cutTo_succ {o : UInt8} {C : List Cf} {j : Nat} {c : Cf} (h : C[j]? = some c) : (cutTo o C j).set j (cz o c) = cutTo o C (j + 1) := by
  have hj := (List.getElem?_eq_some_iff.1 h).1
  have hl : ((C.take j).map (cz o)).length = j := by rw [List.length_map, List.length_take]; omega
  have hc : C[j] = c := (List.getElem?_eq_some_iff.1 h).2
  unfold cutTo
  rw [List.set_append_right _ _ (by omega), hl, Nat.sub_self, List.drop_eq_getElem_cons hj, List.set_cons_zero, List.take_add_one, h]
  simp
theorem cutTo_skip {o : UInt8} {C : List Cf} {j : Nat} {c : Cf} (h : C[j]? = some c) (hh : hit o c.x = false) : cutTo o C j = cutTo o C (j + 1) := by
  rw [← cutTo_succ h]
  have : cz o c = c := by unfold cz; rw [hh]; rfl
  rw [this]
  have h2 := cutTo_get (o := o) h
  obtain ⟨hi, e⟩ := List.getElem?_eq_some_iff.1 h2
  rw [← e, List.set_getElem_self hi]
theorem cutTo_all (o : UInt8) (C : List Cf) : cutTo o C C.length = C.map (cz o) := by simp [cutTo]
end Go.Proofs.Ytkggpkgnkppceaa.LK
