/- The engine, part B: a region that draws its order. -/
import Derived.Test.YtkggpkgnkppceaaEngA
set_option linter.unusedVariables false
namespace Go.Eng

def tmpsL : List Operand → List Nat
  | [] => []
  | .tmp t :: l => t :: tmpsL l
  | _ :: l => tmpsL l
theorem mem_tmpsL {t : Nat} : ∀ {l : List Operand}, Operand.tmp t ∈ l → t ∈ tmpsL l
  | x :: l, h0 => by
    rcases List.mem_cons.1 h0 with h | h
    · subst h; simp [tmpsL]
    · have ih := mem_tmpsL h
      cases x <;> simp only [tmpsL, List.mem_cons, ih, or_true]
def looksL (ops : Array Oper) (o : Oper) : List Nat :=
  (match o.guard with
   | some (g, _) => match (ops[g]?).bind (·.dst) with
     | some d => [d]
     | none => []
   | none => []) ++ tmpsL o.op.operands.toList
theorem mem_looksL {ops : Array Oper} {o : Oper} {t : Nat} (h : t ∈ o.looksAt ops) : t ∈ looksL ops o := by
  unfold Oper.looksAt at h
  unfold looksL
  rcases List.mem_append.1 h with h | h
  · obtain ⟨x, hx, hxt⟩ := List.mem_filterMap.1 h
    refine List.mem_append_right _ (mem_tmpsL (t := t) ?_)
    cases x <;> simp only [reduceCtorEq, Option.some.injEq] at hxt
    subst hxt
    exact hx
  · refine List.mem_append_left _ ?_
    split at h
    · rename_i g _ hg
      simp only [Option.mem_toList] at h
      simp only [hg, h, List.mem_singleton]
    · cases h
def apartL (ops : Array Oper) (x y : Oper) : Bool :=
  (match x.dst with
   | some d => !(looksL ops y).contains d && (match y.dst with | some e => !(Nat.beq e d) | none => true)
   | none => true) &&
  (match y.dst with
   | some d => !(looksL ops x).contains d
   | none => true)
theorem apartL_sound {ops : Array Oper} {x y : Oper} (h : apartL ops x y = true) : x.apart ops y = true := by
  unfold apartL at h
  unfold Oper.apart
  simp only [Bool.and_eq_true] at h ⊢
  refine ⟨?_, ?_⟩
  · cases hx : x.dst with
    | none => rfl
    | some d =>
      have h1 := h.1
      simp only [hx, Bool.and_eq_true, Bool.not_eq_true'] at h1 ⊢
      refine ⟨?_, ?_⟩
      · have := h1.1
        rw [List.contains_eq_mem] at this ⊢
        simp only [decide_eq_false_iff_not] at this ⊢
        exact fun hm => this (mem_looksL hm)
      · cases hy : y.dst with
        | none => simp
        | some e =>
          have := h1.2
          simp only [hy, Bool.not_eq_true'] at this
          simp only [bne_iff_ne, ne_eq, Option.some.injEq]
          intro e'
          subst e'
          simp at this
  · cases hy : y.dst with
    | none => rfl
    | some d =>
      have h2 := h.2
      simp only [hy, Bool.not_eq_true'] at h2 ⊢
      rw [List.contains_eq_mem] at h2 ⊢
      simp only [decide_eq_false_iff_not] at h2 ⊢
      exact fun hm => h2 (mem_looksL hm)

def depsL (o : Oper) : List Nat := (o.after.toList.filter (Region.binds .any)).map (·.on)
/-- Which operations may come up, D having come up. -/
def rdyL : List Oper → Nat → List Nat → List Nat
  | [], _, _ => []
  | o :: l, k, D => match !D.contains k && (depsL o).all D.contains with
    | true => k :: rdyL l (k + 1) D
    | false => rdyL l (k + 1) D
def isStill (P : Program) (F : Frm) (o : Oper) : Bool := (kindOf P F o).1
/-- Operations that let the world but grow, by their kind. -/
def growK (ops : Array Oper) (g : List Nat) (k : Nat) (o : Oper) : Bool := match o.op with
  | .alloc _ | .box _ _ | .buildSlice _ _ _ | .makeSlice _ _ _ | .convert _ _ _ => true
  | .store _ _ _ => false
  | .next _ _ => false
  | .call c => match c.callee with
    | .builtin b => stillB b
    | _ => g.contains k
  | _ => true
/-- May operation i be taken first? l: all operations, from number k on. -/
def firstL (ops : Array Oper) (g : List Nat) (i : Nat) (oi : Oper) (pure : Bool) : List Oper → Nat → List Nat → Bool
  | [], _, _ => true
  | o :: l, k, D => (Nat.beq k i || D.contains k || (depsL o).contains i || (apartL ops oi o && (pure || growK ops g k o))) && firstL ops g i oi pure l (k + 1) D
/-- What waits for operation i, itself or through others. -/
def waitL (i : Nat) : List Oper → Nat → List Nat → List Nat
  | [], _, W => W
  | o :: l, k, W => match (depsL o).any (fun d => Nat.beq d i || W.contains d) with
    | true => waitL i l (k + 1) (k :: W)
    | false => waitL i l (k + 1) W
def firstW (ops : Array Oper) (g : List Nat) (i : Nat) (oi : Oper) (pure : Bool) (W : List Nat) : List Oper → Nat → List Nat → Bool
  | [], _, _ => true
  | o :: l, k, D => (Nat.beq k i || D.contains k || W.contains k || (apartL ops oi o && (pure || growK ops g k o))) && firstW ops g i oi pure W l (k + 1) D
/-- May operation i be taken first? -/
def firstX (ops : Array Oper) (g : List Nat) (i : Nat) (oi : Oper) (pure : Bool) (l : List Oper) (D : List Nat) : Bool :=
  firstL ops g i oi pure l 0 D || ((waitL i l 0 []).all (fun x => !D.contains x) && firstW ops g i oi pure (waitL i l 0 []) l 0 D)
def pickL (P : Program) (F : Frm) (ops : Array Oper) (g : List Nat) (D : List Nat) : List Nat → Option Nat
  | [] => none
  | i :: r => match ops[i]? with
    | some oi => match isStill P F oi && firstX ops g i oi (kindOf P F oi).2 ops.toList D with
      | true => some i
      | false => pickL P F ops g D r
    | none => pickL P F ops g D r
def noSel (ops : Array Oper) : List Oper → Bool
  | [] => true
  | o :: l => match o.op with
    | .select _ _ => false
    | _ => noSel ops l
def allx : List Nat → (Nat → Prop) → Prop
  | [], _ => True
  | [i], f => f i
  | i :: l, f => f i ∧ allx l f
/-- A flagged operation must let the local heap but grow. -/
def growx (b : Bool) (H H' : Hp) (K : Prop) : Prop := match b with
  | true => H <+: H' ∧ K
  | false => K
def stepG (P : Program) (ro : Addr → A → Prop) (nt : Nat) (ops : Array Oper) (b : Bool) (o : Oper) (F : Frm) (H : Hp) (K : Frm → Hp → Prop) : Prop :=
  needx (dstOK o.dst nt) (guardx ops F o (opx P ro F H o fun v H' => growx b H H' (nextx o v F H' K)) (K (put o.dst (.t []) F) H))
def anyx (P : Program) (ro : Addr → A → Prop) (nt : Nat) (ops : Array Oper) (g : List Nat) : Nat → List Nat → Frm → Hp → (Frm → Hp → Prop) → Prop
  | 0, D, F, H, K => match rdyL ops.toList 0 D with
    | [] => K F H
    | _ => False
  | n + 1, D, F, H, K => match rdyL ops.toList 0 D with
    | [] => K F H
    | r => match pickL P F ops g D r with
      | some i => match ops[i]? with
        | some o => stepx P ro nt ops o F H fun F H => anyx P ro nt ops g n (i :: D) F H K
        | none => False
      | none => allx r fun i => match ops[i]? with
        | some o => stepG P ro nt ops (growK ops g i o) o F H fun F H => anyx P ro nt ops g n (i :: D) F H K
        | none => False

section sound
variable {c : Ctx} {o : Oper} {β : Num} {F : Frm} {H : Hp} {a : Act} {w : World} {ops : Array Oper} {g : List Nat}

/-- The list D tells what the array tells. -/
def Lists (ops : Array Oper) (D : List Nat) (listed : Array Bool) : Prop := listed.size = ops.size ∧ ∀ k, listed.getD k false = (decide (k < ops.size) && D.contains k)
theorem Lists.nil (ops : Array Oper) : Lists ops [] (Array.replicate ops.size false) := by
  refine ⟨by simp, fun k => ?_⟩
  rw [Array.getD_eq_getD_getElem?]
  by_cases h : k < ops.size
  · simp [h]
  · simp [h]
theorem Lists.cons {D : List Nat} {listed : Array Bool} (h : Lists ops D listed) (i : Nat) : Lists ops (i :: D) (listed.setIfInBounds i true) := by
  refine ⟨by simp [h.1], fun k => ?_⟩
  by_cases e : i = k
  · subst e
    by_cases hi : i < ops.size
    · have : i < listed.size := by rw [h.1]; exact hi
      simp [Array.getD_eq_getD_getElem?, this, hi]
    · have : ¬ i < listed.size := by rw [h.1]; exact hi
      simp [Array.getD_eq_getD_getElem?, hi, this]
  · rw [getD_set_ne false e, h.2 k]
    simp [Ne.symm e]
theorem Lists.getT {D : List Nat} {listed : Array Bool} (h : Lists ops D listed) {k : Nat} (hk : k < ops.size) : listed.getD k true = D.contains k := by
  have h2 := h.2 k
  have hl : k < listed.size := by rw [h.1]; exact hk
  simp only [Array.getD_eq_getD_getElem?, Array.getElem?_eq_getElem hl, Option.getD_some] at h2 ⊢
  simpa [hk] using h2
theorem mem_rdyL {D : List Nat} : ∀ (l : List Oper) (k i : Nat), i ∈ rdyL l k D ↔ k ≤ i ∧ D.contains i = false ∧ ∃ o, l[i - k]? = some o ∧ ∀ d ∈ depsL o, D.contains d = true
  | [], k, i => by simp [rdyL]
  | o :: l, k, i => by
    have ih := mem_rdyL (D := D) l (k + 1) i
    unfold rdyL
    by_cases hik : i = k
    · subst hik
      have hno : ¬ i ∈ rdyL l (i + 1) D := fun h => by have := (ih.1 h).1; omega
      split
      · rename_i hc
        simp only [Bool.and_eq_true, Bool.not_eq_true', List.all_eq_true] at hc
        simp only [List.mem_cons, true_or, true_iff, Nat.le_refl, true_and, Nat.sub_self, List.getElem?_cons_zero]
        exact ⟨hc.1, o, rfl, hc.2⟩
      · rename_i hc
        simp only [hno, false_iff, Nat.le_refl, true_and, Nat.sub_self, List.getElem?_cons_zero]
        rintro ⟨h1, o', ho, h2⟩
        injection ho with ho
        subst ho
        simp [List.all_eq_true.2 h2] at hc
        have h1' : i ∉ D := by simpa using h1
        exact h1' hc
    · have hs : ∀ (h : k + 1 ≤ i), (o :: l)[i - k]? = l[i - (k + 1)]? := fun h => by
        rw [show i - k = (i - (k + 1)) + 1 by omega]
        simp
      have goal : i ∈ rdyL l (k + 1) D ↔ k ≤ i ∧ D.contains i = false ∧ ∃ o', (o :: l)[i - k]? = some o' ∧ ∀ d ∈ depsL o', D.contains d = true := by
        rw [ih]
        constructor
        · rintro ⟨h1, h2, h3⟩
          rw [hs h1]
          exact ⟨by omega, h2, h3⟩
        · rintro ⟨h1, h2, h3⟩
          have : k + 1 ≤ i := by omega
          rw [hs this] at h3
          exact ⟨this, h2, h3⟩
      split
      · simp only [List.mem_cons, hik, false_or]
        exact goal
      · exact goal
theorem mem_depsL {o : Oper} {d : Nat} : d ∈ depsL o ↔ ∃ e ∈ o.after, Region.binds .any e = true ∧ e.on = d := by
  unfold depsL
  simp only [List.mem_map, List.mem_filter, Array.mem_toList_iff]
  constructor
  · rintro ⟨e, ⟨h1, h2⟩, h3⟩; exact ⟨e, h1, h2, h3⟩
  · rintro ⟨e, h1, h2, h3⟩; exact ⟨e, ⟨h1, h2⟩, h3⟩
/-- All edges lead to operations of the region. -/
def edgesL (n : Nat) : List Oper → Bool
  | [] => true
  | o :: l => (depsL o).all (fun d => Nat.blt d n) && edgesL n l
theorem edgesL_sound {n : Nat} (l : List Oper) (h : edgesL n l = true) (x : Oper) (hx : x ∈ l) (d : Nat) (hd : d ∈ depsL x) : d < n := by
  induction l with
  | nil => cases hx
  | cons o l ih =>
    unfold edgesL at h
    rw [Bool.and_eq_true] at h
    cases hx with
    | head =>
      have := List.all_eq_true.1 h.1 d hd
      exact Nat.blt_eq.mp this
    | tail _ hx => exact ih h.2 hx
theorem ready_iff {D : List Nat} {listed : Array Bool} (h : Lists ops D listed) (he : edgesL ops.size ops.toList = true) (i : Nat) : i ∈ Region.ready .any ops listed ↔ i ∈ rdyL ops.toList 0 D := by
  rw [mem_ready, mem_rdyL]
  simp only [Nat.zero_le, true_and, Nat.sub_zero, Array.getElem?_toList]
  constructor
  · rintro ⟨h0, o, ho, hall⟩
    have hi : i < ops.size := (Array.getElem?_eq_some_iff.1 ho).1
    refine ⟨by rw [← h.getT hi]; exact h0, o, ho, fun d hd => ?_⟩
    obtain ⟨e, he1, he2, he3⟩ := mem_depsL.1 hd
    have := hall e he1 he2
    rw [he3, h.2 d] at this
    simp only [Bool.and_eq_true] at this
    exact this.2
  · rintro ⟨h0, o, ho, hall⟩
    have hi : i < ops.size := (Array.getElem?_eq_some_iff.1 ho).1
    refine ⟨by rw [h.getT hi]; exact h0, o, ho, fun e he1 he2 => ?_⟩
    have hd := mem_depsL.2 ⟨e, he1, he2, rfl⟩
    have hlt := edgesL_sound _ he o (by have := Array.mem_of_getElem? ho; simpa using this) _ hd
    rw [h.2, hall _ hd]
    simp [hlt]
end sound
end Go.Eng
