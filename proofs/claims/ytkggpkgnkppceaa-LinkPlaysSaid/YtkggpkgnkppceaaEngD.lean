/- The engine, part D: code, loops, functions. -/
import Derived.Test.YtkggpkgnkppceaaEngC
set_option linter.unusedVariables false
namespace Go.Eng

/-! ### Other numbers for the blocks. -/
def A.ren (δ : Nat → Nat) : A → A
  | .ptr i o => .ptr (δ i) o
  | .slc i o l k => .slc (δ i) o l k
  | .clo f caps => .clo f (caps.map fun q => (δ q.1, q.2))
  | .ifc t x => .ifc t (x.ren δ)
  | x => x
def E.ren (δ : Nat → Nat) : E → E
  | .a x => .a (x.ren δ)
  | .g cs => .g (cs.map (A.ren δ))
def V.ren (δ : Nat → Nat) : V → V
  | .a x => .a (x.ren δ)
  | .g cs => .g (cs.map (A.ren δ))
  | .t xs => .t (xs.map (E.ren δ))
def Ob.ren (δ : Nat → Nat) : Ob → Ob
  | .cells cs ty mk => .cells (cs.map (A.ren δ)) ty mk
  | .iter s p => .iter s p
theorem A.ren_val (β : Num) (δ : Nat → Nat) (x : A) : (x.ren δ).val β = x.val (fun i => β (δ i)) := by
  induction x with
  | ifc t x ih => simp only [A.ren, A.val]; rw [ih]
  | clo f caps => simp [A.ren, A.val, Function.comp_def, adr]
  | _ => rfl
theorem map_ren_val (β : Num) (δ : Nat → Nat) (cs : List A) : (cs.map (A.ren δ)).map (A.val β) = cs.map (A.val fun i => β (δ i)) := by
  rw [List.map_map]
  exact List.map_congr_left fun x _ => A.ren_val β δ x
theorem E.ren_val (β : Num) (δ : Nat → Nat) (x : E) : (x.ren δ).val β = x.val (fun i => β (δ i)) := by
  cases x with
  | a x => exact A.ren_val β δ x
  | g cs => simp only [E.ren, E.val, map_ren_val]
theorem V.ren_val (β : Num) (δ : Nat → Nat) (x : V) : (x.ren δ).val β = x.val (fun i => β (δ i)) := by
  cases x with
  | a x => exact A.ren_val β δ x
  | g cs => simp only [V.ren, V.val, map_ren_val]
  | t xs =>
    simp only [V.ren, V.val, List.map_map]
    congr 2
    exact List.map_congr_left fun x _ => E.ren_val β δ x
theorem Ob.ren_obj (β : Num) (δ : Nat → Nat) (x : Ob) : (x.ren δ).obj β = x.obj (fun i => β (δ i)) := by
  cases x with
  | cells cs ty mk => simp only [Ob.ren, Ob.obj, map_ren_val, List.length_map]
  | iter s p => rfl

theorem A.ren_gh {β : Num} {δ : Nat → Nat} {x : A} (h : (x.ren δ).gh β) : x.gh (fun i => β (δ i)) := by
  induction x with
  | ifc t x ih => exact ih h
  | clo f caps => intro q hq; exact h (δ q.1, q.2) (List.mem_map.2 ⟨q, hq, rfl⟩)
  | _ => exact h
theorem E.ren_gh {β : Num} {δ : Nat → Nat} {x : E} (h : (x.ren δ).gh β) : x.gh (fun i => β (δ i)) := by
  cases x with
  | a x => exact A.ren_gh h
  | g cs => exact fun y hy => A.ren_gh (h _ (List.mem_map.2 ⟨y, hy, rfl⟩))
theorem V.ren_gh {β : Num} {δ : Nat → Nat} {x : V} (h : (x.ren δ).gh β) : x.gh (fun i => β (δ i)) := by
  cases x with
  | a x => exact A.ren_gh h
  | g cs => exact fun y hy => A.ren_gh (h _ (List.mem_map.2 ⟨y, hy, rfl⟩))
  | t xs => exact fun y hy => E.ren_gh (h _ (List.mem_map.2 ⟨y, hy, rfl⟩))
theorem Ob.ren_gh {β : Num} {δ : Nat → Nat} {x : Ob} (h : (x.ren δ).gh β) : x.gh (fun i => β (δ i)) := by
  cases x with
  | cells cs ty mk => exact fun y hy => A.ren_gh (h _ (List.mem_map.2 ⟨y, hy, rfl⟩))
  | iter s p => trivial
theorem Ob.ren_bare {δ : Nat → Nat} {x : Ob} (h : (x.ren δ).bare) : x.bare := by
  cases x with
  | cells cs ty mk => exact List.map_eq_nil_iff.1 h
  | iter s p => exact h
theorem A.gh_ren {β : Num} {δ : Nat → Nat} {x : A} (h : x.gh (fun i => β (δ i))) : (x.ren δ).gh β := by
  induction x with
  | ifc t x ih => exact ih h
  | clo f caps => intro q hq; obtain ⟨r, hr, rfl⟩ := List.mem_map.1 hq; exact h r hr
  | _ => exact h
theorem E.gh_ren {β : Num} {δ : Nat → Nat} {x : E} (h : x.gh (fun i => β (δ i))) : (x.ren δ).gh β := by
  cases x with
  | a x => exact A.gh_ren h
  | g cs => intro y hy; obtain ⟨r, hr, rfl⟩ := List.mem_map.1 hy; exact A.gh_ren (h r hr)
theorem V.gh_ren {β : Num} {δ : Nat → Nat} {x : V} (h : x.gh (fun i => β (δ i))) : (x.ren δ).gh β := by
  cases x with
  | a x => exact A.gh_ren h
  | g cs => intro y hy; obtain ⟨r, hr, rfl⟩ := List.mem_map.1 hy; exact A.gh_ren (h r hr)
  | t xs => intro y hy; obtain ⟨r, hr, rfl⟩ := List.mem_map.1 hy; exact E.gh_ren (h r hr)
theorem Ob.gh_ren {β : Num} {δ : Nat → Nat} {x : Ob} (h : x.gh (fun i => β (δ i))) : (x.ren δ).gh β := by
  cases x with
  | cells cs ty mk => intro y hy; obtain ⟨r, hr, rfl⟩ := List.mem_map.1 hy; exact A.gh_ren (h r hr)
  | iter s p => trivial
/-! ### Nil slices as empty rows: blocks from number k on lie nowhere. -/
def A.ung (k : Nat) : A → A
  | .slc i o l c => match Nat.blt i k with
    | true => .slc i o l c
    | false => match l, c with
      | 0, 0 => .nils
      | l, c => .slc i o l c
  | .ifc t x => .ifc t (x.ung k)
  | x => x
def E.ung (k : Nat) : E → E
  | .a x => .a (x.ung k)
  | .g cs => .g (cs.map (A.ung k))
def V.ung (k : Nat) : V → V
  | .a x => .a (x.ung k)
  | .g cs => .g (cs.map (A.ung k))
  | .t xs => .t (xs.map (E.ung k))
def Ob.ung (k : Nat) : Ob → Ob
  | .cells cs ty mk => .cells (cs.map (A.ung k)) ty mk
  | .iter s p => .iter s p
def upto (β : Num) (k : Nat) : Num := fun i => if i < k then β i else none
theorem upto_lt {β : Num} {k i : Nat} (h : i < k) : upto β k i = β i := if_pos h
theorem upto_ge {β : Num} {k i : Nat} (h : k ≤ i) : upto β k i = none := if_neg (Nat.not_lt.2 h)
theorem A.ung_sound {β : Num} {k : Nat} : ∀ {x : A}, (x.ung k).fit β k → x.gh (upto β k) ∧ (x.ung k).val β = x.val (upto β k) := by
  intro x
  induction x with
  | ptr i o => intro h; exact ⟨by simp only [A.gh]; rw [upto_lt h.1]; exact h.2, by simp only [A.ung, A.val, adr]; rw [upto_lt h.1]⟩
  | slc i o l c =>
    intro h
    unfold A.ung at h ⊢
    cases e : Nat.blt i k with
    | true =>
      have hi : i < k := Nat.le_of_ble_eq_true e
      simp only [e] at h
      exact ⟨by simp only [A.gh]; rw [upto_lt hi]; exact h.2, by simp only [A.val, adr]; rw [upto_lt hi]⟩
    | false =>
      have hi : k ≤ i := Nat.not_lt.1 fun h' => by have := Nat.ble_eq_true_of_le h'; rw [show Nat.ble (i + 1) k = Nat.blt i k from rfl, e] at this; cases this
      simp only [e] at h ⊢
      split at h
      · exact ⟨fun _ => ⟨rfl, rfl⟩, by simp [A.val, adr_none (upto_ge hi)]⟩
      · exact absurd h.1 (Nat.not_lt.2 hi)
  | clo f caps =>
    intro h
    refine ⟨fun q hq => by rw [upto_lt (h.1 q hq)]; exact h.2 q hq, ?_⟩
    simp only [A.ung, A.val]
    congr 2
    exact List.map_congr_left fun q hq => by unfold adr; rw [upto_lt (h.1 q hq)]
  | ifc t x ih => intro h; obtain ⟨h1, h2⟩ := ih h; exact ⟨h1, by simp only [A.ung, A.val]; rw [h2]⟩
  | _ => intro _; exact ⟨trivial, rfl⟩
theorem ungs_sound {β : Num} {k : Nat} {cs : List A} (h : ∀ x ∈ cs.map (A.ung k), x.fit β k) : (∀ x ∈ cs, x.gh (upto β k)) ∧ (cs.map (A.ung k)).map (A.val β) = cs.map (A.val (upto β k)) := by
  refine ⟨fun x hx => (A.ung_sound (h _ (List.mem_map.2 ⟨x, hx, rfl⟩))).1, ?_⟩
  rw [List.map_map]
  exact List.map_congr_left fun x hx => (A.ung_sound (h _ (List.mem_map.2 ⟨x, hx, rfl⟩))).2
theorem E.ung_sound {β : Num} {k : Nat} {x : E} (h : (x.ung k).fit β k) : x.gh (upto β k) ∧ (x.ung k).val β = x.val (upto β k) := by
  cases x with
  | a x => exact A.ung_sound h
  | g cs =>
    obtain ⟨h1, h2⟩ := ungs_sound (β := β) (k := k) (cs := cs) (fun x hx => ⟨h.1 x hx, h.2 x hx⟩)
    exact ⟨h1, by simp only [E.ung, E.val]; rw [h2]⟩
theorem V.ung_sound {β : Num} {k : Nat} {x : V} (h : (x.ung k).fit β k) : x.gh (upto β k) ∧ (x.ung k).val β = x.val (upto β k) := by
  cases x with
  | a x => exact A.ung_sound h
  | g cs =>
    obtain ⟨h1, h2⟩ := ungs_sound (β := β) (k := k) (cs := cs) (fun x hx => ⟨h.1 x hx, h.2 x hx⟩)
    exact ⟨h1, by simp only [V.ung, V.val]; rw [h2]⟩
  | t xs =>
    have hh : ∀ x ∈ xs, (x.ung k).fit β k := fun x hx => ⟨h.1 _ (List.mem_map.2 ⟨x, hx, rfl⟩), h.2 _ (List.mem_map.2 ⟨x, hx, rfl⟩)⟩
    refine ⟨fun x hx => (E.ung_sound (hh x hx)).1, ?_⟩
    simp only [V.ung, V.val, List.map_map]
    congr 2
    exact List.map_congr_left fun x hx => (E.ung_sound (hh x hx)).2
theorem Ob.ung_sound {β : Num} {k : Nat} {x : Ob} (h : (x.ung k).fit β k) : x.gh (upto β k) ∧ (x.ung k).obj β = x.obj (upto β k) := by
  cases x with
  | cells cs ty mk =>
    obtain ⟨h1, h2⟩ := ungs_sound (β := β) (k := k) (cs := cs) (fun x hx => ⟨h.1 x hx, h.2 x hx⟩)
    exact ⟨h1, by simp only [Ob.ung, Ob.obj, List.length_map]; rw [h2]⟩
  | iter s p => exact ⟨trivial, rfl⟩
theorem Ob.bare_ung {k : Nat} {x : Ob} (h : (x.ung k).bare) : x.bare := by
  cases x with
  | cells cs ty mk => exact List.map_eq_nil_iff.1 h
  | iter s p => exact h
theorem Ob.bare_gh {β : Num} {x : Ob} (h : x.bare) : x.gh β := by
  cases x with
  | cells cs ty mk => intro y hy; rw [show cs = [] from h] at hy; cases hy
  | iter s p => exact h.elim
theorem Ob.bare_ok {n : Nat} {x : Ob} (h : x.bare) : x.ok n := by
  cases x with
  | cells cs ty mk => intro y hy; rw [show cs = [] from h] at hy; cases hy
  | iter s p => exact h.elim
/-- More blocks, all of them empty and nowhere, and nil slices that lie in them. -/
structure Gho (F : Frm) (H : Hp) (F₁ : Frm) (H₁ : Hp) : Prop where
  len : H.length ≤ H₁.length
  old : ∀ (i : Nat) (o : Ob), i < H.length → H₁[i]? = some o → H[i]? = some (o.ung H.length)
  new : ∀ (i : Nat) (o : Ob), H.length ≤ i → H₁[i]? = some o → o.bare
  slot : ∀ i v, look F₁ i = some v → look F i = some (v.ung H.length)
  fok : ∀ i v, look F₁ i = some v → v.ok H₁.length
  hok : ∀ (i : Nat) (o : Ob), H₁[i]? = some o → o.ok H₁.length
theorem Gho.wsat {c : Ctx} {β : Num} {F F₁ : Frm} {H H₁ : Hp} {w : World} (g : Gho F H F₁ H₁) (hw : WSat c β H w) : WSat c (upto β H.length) H₁ w := by
  refine ⟨?_, ?_, ?_, ?_, ?_, Nat.le_trans hw.n0 g.len, hw.fr, ?_, hw.ro⟩
  · intro i j b hi hj e e'
    rcases Nat.lt_or_ge i H.length with h1 | h1
    · rcases Nat.lt_or_ge j H.length with h2 | h2
      · rw [upto_lt h1] at e; rw [upto_lt h2] at e'; exact hw.inj i j b h1 h2 e e'
      · rw [upto_ge h2] at e'; cases e'
    · rw [upto_ge h1] at e; cases e
  · intro i b o ho e
    rcases Nat.lt_or_ge i H.length with h1 | h1
    · rw [upto_lt h1] at e
      have ho' := g.old i o h1 ho
      rw [hw.blk i b _ ho' e, (Ob.ung_sound (hw.ok i _ ho')).2]
    · rw [upto_ge h1] at e; cases e
  · intro i o ho e
    rcases Nat.lt_or_ge i H.length with h1 | h1
    · rw [upto_lt h1] at e
      exact Ob.bare_ung (hw.bare i _ (g.old i o h1 ho) e)
    · exact g.new i o h1 ho
  · intro i o ho
    refine ⟨g.hok i o ho, ?_⟩
    rcases Nat.lt_or_ge i H.length with h1 | h1
    · exact (Ob.ung_sound (hw.ok i _ (g.old i o h1 ho))).1
    · exact Ob.bare_gh (g.new i o h1 ho)
  · intro i hi
    rw [upto_lt (Nat.lt_of_lt_of_le hi hw.n0)]
    exact hw.base i hi
  · intro i b hi hl e
    rcases Nat.lt_or_ge i H.length with h1 | h1
    · rw [upto_lt h1] at e; exact hw.new i b hi h1 e
    · rw [upto_ge h1] at e; cases e
/-- The slots of the list are as they are in the other. -/
def Sub : Frm → Frm → Prop
  | [], _ => True
  | (i, v) :: l, F => look F i = some v ∧ Sub l F
theorem Sub.look : ∀ {F₀ F : Frm}, Sub F₀ F → ∀ i v, look F₀ i = some v → look F i = some v
  | [], _, _, _, _, h => by cases h
  | (j, u) :: l, F, hs, i, v, h => by
    unfold Eng.look at h
    split at h
    · rename_i he
      have : j = i := by simpa using he
      subst this
      injection h with h
      subst h
      exact hs.1
    · exact Sub.look hs.2 i v h
/-- Fewer slots, fewer blocks, other numbers. -/
structure Weak (n0 : Nat) (δ : Nat → Nat) (F : Frm) (H : Hp) (F₀ : Frm) (H₀ : Hp) : Prop where
  slot : ∀ i v, look F₀ i = some v → look F i = some (v.ren δ)
  blk : ∀ (i : Nat) (o : Ob), H₀[i]? = some o → H[δ i]? = some (o.ren δ)
  inj : ∀ i j, i < H₀.length → j < H₀.length → δ i = δ j → i = j
  base : ∀ i, i < n0 → δ i = i
  n0 : n0 ≤ H₀.length
  fok : ∀ i v, look F₀ i = some v → v.ok H₀.length
  hok : ∀ (i : Nat) (o : Ob), H₀[i]? = some o → o.ok H₀.length
inductive IntoI (n0 : Nat) (J : Frm → Hp → Prop) : Frm → Hp → Prop
  | sub {F F₀ : Frm} {H : Hp} (h : Sub F₀ F) (hj : J F₀ H) : IntoI n0 J F H
  | weak {F F₀ : Frm} {H H₀ : Hp} {δ : Nat → Nat} (h : Weak n0 δ F H F₀ H₀) (hj : J F₀ H₀) : IntoI n0 J F H
  | gho {F F₁ : Frm} {H H₁ : Hp} (h : Gho F H F₁ H₁) (hj : IntoI n0 J F₁ H₁) : IntoI n0 J F H
def Into (n0 : Nat) (F : Frm) (H : Hp) (J : Frm → Hp → Prop) : Prop := IntoI n0 J F H
theorem Into.sat {c : Ctx} {F : Frm} {H : Hp} {J : Frm → Hp → Prop} {a : Act} {w : World} (h : Into c.n0 F H J) (hs : Sat c F H a w) : ∃ F₀ H₀, J F₀ H₀ ∧ Sat c F₀ H₀ a w := by
  replace h : IntoI c.n0 J F H := h
  induction h with
  | sub hsub hj =>
    obtain ⟨β, hw, hf⟩ := hs
    exact ⟨_, _, hj, β, hw, ⟨fun i v hv => hf.slot i v (hsub.look i v hv), fun i v hv => hf.ok i v (hsub.look i v hv), hf.size, hf.defers⟩⟩
  | @weak F F₀ H H₀ δ hk hj =>
    obtain ⟨β, hw, hf⟩ := hs
    refine ⟨F₀, H₀, hj, fun i => β (δ i), ⟨?_, ?_, ?_, ?_, ?_, hk.n0, hw.fr, ?_, hw.ro⟩, ⟨?_, ?_, hf.size, hf.defers⟩⟩
    · intro i j b hi hj' e e'
      have hlt : ∀ k, k < H₀.length → δ k < H.length := fun k hk' => hw.lenOf (hk.blk k H₀[k] (by simp [hk']))
      exact hk.inj i j hi hj' (hw.inj _ _ b (hlt i hi) (hlt j hj') e e')
    · intro i b o ho e
      rw [← Ob.ren_obj]
      exact hw.blk _ b _ (hk.blk i o ho) e
    · intro i o ho e
      exact Ob.ren_bare (hw.bare _ _ (hk.blk i o ho) e)
    · intro i o ho
      exact ⟨hk.hok i o ho, Ob.ren_gh (hw.ok _ _ (hk.blk i o ho)).2⟩
    · intro i hi
      show β (δ i) = _
      rw [hk.base i hi]
      exact hw.base i hi
    · intro i b hi hl e
      have hlt := hw.lenOf (hk.blk i H₀[i] (by simp [hl]))
      refine hw.new (δ i) b ?_ hlt e
      rcases Nat.lt_or_ge (δ i) c.n0 with h' | h'
      · have e := hk.base (δ i) h'
        have := hk.inj (δ i) i (Nat.lt_of_lt_of_le h' hk.n0) hl e
        omega
      · exact h'
    · intro i v hv
      have := hf.slot i _ (hk.slot i v hv)
      rw [V.ren_val] at this
      exact this
    · intro i v hv
      exact ⟨hk.fok i v hv, V.ren_gh (hf.ok i _ (hk.slot i v hv)).2⟩
  | gho g hj ih =>
    obtain ⟨β, hw, hf⟩ := hs
    refine ih ⟨upto β _, g.wsat hw, ⟨?_, ?_, hf.size, hf.defers⟩⟩
    · intro i v hv
      have h1 := g.slot i v hv
      rw [hf.slot i _ h1, (V.ung_sound (hf.ok i _ h1)).2]
    · intro i v hv
      exact ⟨g.fok i v hv, (V.ung_sound (hf.ok i _ (g.slot i v hv))).1⟩

/-- A loop by an invariant, with a number that every round lowers. -/
def invx (n0 : Nat) (body : Frm → Hp → (Exit → Frm → Hp → Prop) → Prop) (Q : Exit → Frm → Hp → Prop) (F : Frm) (H : Hp) : Prop :=
  ∃ (I : Nat → Frm → Hp → Prop) (n : Nat), Into n0 F H (I n) ∧ ∀ n F H, I n F H → body F H (fun e F' H' => match e with
    | .normal => ∃ m, m < n ∧ Into n0 F' H' (I m)
    | e => Q e F' H')
/-- Some rounds, one by one. -/
def iterx (n0 : Nat) (body : Frm → Hp → (Exit → Frm → Hp → Prop) → Prop) (Q : Exit → Frm → Hp → Prop) : Nat → Frm → Hp → Prop
  | 0, F, H => invx n0 body Q F H
  | k + 1, F, H => body F H (fun e F' H' => match e with
    | .normal => iterx n0 body Q k F' H'
    | e => Q e F' H')
structure loopx (n0 : Nat) (body : Frm → Hp → (Exit → Frm → Hp → Prop) → Prop) (F : Frm) (H : Hp) (Q : Exit → Frm → Hp → Prop) : Prop where
  run : ∃ k, iterx n0 body Q k F H

/-- A check that is made once, outside of the walk. -/
structure regx (b : Bool) (K : Prop) : Prop where
  sure : b = true
  rest : K
theorem regx_of {b : Bool} {K : Prop} (h : b = true) (k : K) : regx b K := ⟨h, k⟩
theorem regx_elim {b : Bool} {K : Prop} (h : regx b K) : b = true ∧ K := ⟨h.sure, h.rest⟩
/-- Hints for regions that draw their order: calls that but grow the heap; one order, with its reasons. -/
abbrev Hints := Nat → List Nat × List (Nat × Nat)
abbrev Wx := Frm → Hp → (Exit → Frm → Hp → Prop) → Prop
def wSkip : Wx := fun F H Q => Q .normal F H
/-- A place at which slots and blocks may be dropped, and ways may be joined. -/
structure cutx (n0 : Nat) (F : Frm) (H : Hp) (J : Frm → Hp → Prop) : Prop where
  run : Into n0 F H J
/-- A region that does not draw is a cut if its hint names any number. -/
def wRegion (P : Program) (ro : Addr → A → Prop) (nt n0 : Nat) (g : Hints) (id : Nat) (ops : Array Oper) (draw : Bool) : Wx := fun F H Q => match draw with
    | false => match (g id).1 with
      | [] => opsx P ro nt ops ops.toList F H (Q .normal)
      | _ :: _ => cutx n0 F H fun F H => opsx P ro nt ops ops.toList F H (Q .normal)
    | true => match (g id).2 with
      | [] => needx (edgesL ops.size ops.toList && noSel ops ops.toList && P.follows .mixedOrders) (anyx P ro nt ops (g id).1 ops.size [] F H (Q .normal))
      | x :: l => regx (regOK P ops (g id).1 (x :: l)) (seqx P ro nt ops (g id).1 (x :: l) F H (Q .normal))
def wSeq (a b : Wx) : Wx := fun F H Q => a F H (fun e F H => match e with
    | .normal => b F H Q
    | e => Q e F H)
def wCond (c : Operand) (a b : Wx) : Wx := fun F H Q => match rho F c with
    | some (.a (.bool t)) => condx t (a F H Q) (b F H Q)
    | _ => False
def wBlock (id : Nat) (a : Wx) : Wx := fun F H Q => a F H (fun e F H => match e with
    | .exit i => match Nat.beq i id with
      | true => Q .normal F H
      | false => Q (.exit i) F H
    | e => Q e F H)
def wLoop (n0 : Nat) (a : Wx) : Wx := fun F H Q => loopx n0 a F H Q
def wExit (id : Nat) : Wx := fun F H Q => Q (.exit id) F H
def wRet : Wx := fun F H Q => Q .ret F H
def wNone : Wx := fun _ _ _ => False
/-- By the recursor itself: what is left is the very term that the kernel meets. -/
def wpx (P : Program) (ro : Addr → A → Prop) (nt n0 : Nat) (g : Hints) (c : Code) : Wx :=
  Code.rec (motive := fun _ => Wx) wSkip (fun id ops draw => wRegion P ro nt n0 g id ops draw) (fun _ _ a b => wSeq a b) (fun c _ _ a b => wCond c a b) (fun id _ a => wBlock id a) (fun _ a => wLoop n0 a)
    (fun _ _ _ _ _ _ => wNone) wExit (fun _ _ => wNone) (fun _ => wNone) (fun _ => wNone) wRet (fun _ => wNone) c

section code
variable {c : Ctx}
def Post (c : Ctx) (Q : Exit → Frm → Hp → Prop) (e : Exit) (a : Act) (w : World) : Prop :=
  (∀ ch, e ≠ .panic ch) ∧ e ≠ .outgrown ∧ ∃ F H, Q e F H ∧ Sat c F H a w
theorem Post.not_panic {Q : Exit → Frm → Hp → Prop} (ch : List PanicEntry) (a : Act) (w : World) : ¬ Post c Q (.panic ch) a w := fun h => h.1 ch rfl
theorem Post.not_out {Q : Exit → Frm → Hp → Prop} : ¬ LetsOut (Post c Q) := fun ⟨a, w, h⟩ => h.2.1 rfl
def InLoop (P : Program) (x : Code) (Q : Exit → Act → World → Prop) (a : Act) (w : World) : Prop :=
  ∀ b k cs, ∃ e a' w', Q e a' w' ∧ Arrives P (lone (b.at a (.code x :: .inLoop x :: k)) cs w) b k cs e a' w'
theorem InLoop.wp {P : Program} {x : Code} {Q : Exit → Act → World → Prop} {a : Act} {w : World} (h : InLoop P x Q a w) : (Code.loop x).wp P Q a w := by
  intro b k cs
  obtain ⟨e, a', w', hq, harr⟩ := h b k cs
  exact ⟨e, a', w', hq, .of_steps (.one step_loop) harr⟩
theorem InLoop.step {P : Program} {x : Code} {Q : Exit → Act → World → Prop} {a : Act} {w : World} (h : x.wp P (Exit.then (InLoop P x Q) Q) a w) : InLoop P x Q a w := by
  intro b k cs
  obtain ⟨e, a₁, w₁, hq, harr⟩ := h b (.inLoop x :: k) cs
  cases e with
  | normal =>
    obtain ⟨e₂, a₂, w₂, hq₂, harr₂⟩ := hq b k cs
    exact ⟨e₂, a₂, w₂, hq₂, .of_steps (Steps.trans harr (.one step_inLoop)) harr₂⟩
  | exit id => exact ⟨_, a₁, w₁, hq, .pass (x := .inLoop x) rfl (fun _ _ => .inl (by simp)) harr⟩
  | goto l => exact ⟨_, a₁, w₁, hq, .pass (x := .inLoop x) rfl (fun _ _ => .inl (by simp)) harr⟩
  | ret => exact ⟨_, a₁, w₁, hq, .pass (x := .inLoop x) rfl (fun _ _ => .inl (by simp)) harr⟩
  | panic ch => exact ⟨_, a₁, w₁, hq, .pass (x := .inLoop x) rfl (fun _ _ => .inl (by simp)) harr⟩
  | outgrown => exact ⟨_, a₁, w₁, hq, .pass (x := .inLoop x) rfl (fun _ _ => .inl (by simp)) harr⟩
theorem InLoop.idx {P : Program} {Q : Exit → Act → World → Prop} {x : Code} (J : Nat → Act → World → Prop)
    (round : ∀ n a w, J n a w → x.wp P (Exit.then (fun a' w' => ∃ m, m < n ∧ J m a' w') Q) a w) : ∀ (n : Nat) (a : Act) (w : World), J n a w → InLoop P x Q a w := by
  intro n
  induction n using Nat.strongRecOn with
  | _ n ih =>
    intro a w hJ
    refine InLoop.step (Code.wp_mono (fun e a₁ w₁ hq => ?_) (round n a w hJ))
    cases e with
    | normal =>
      obtain ⟨m, hm, hJ₁⟩ := hq
      exact ih m hm a₁ w₁ hJ₁
    | _ => exact hq

theorem code_sound {g : Hints} : ∀ (x : Code) {F : Frm} {H : Hp} {Q : Exit → Frm → Hp → Prop}, wpx c.P c.ro c.nt c.n0 g x F H Q → ∀ a w, Sat c F H a w → x.wp c.P (Post c Q) a w := by
  intro x
  induction x with
  | skip => intro F H Q h a w hs; exact wp_skip ⟨fun _ => by simp, by simp, F, H, h, hs⟩
  | region id ops draw =>
    intro F H Q h a w hs
    cases draw with
    | false =>
      replace h : wRegion c.P c.ro c.nt c.n0 g id ops false F H Q := h
      unfold wRegion at h
      simp only at h
      split at h
      · exact wp_region_list (opsx_sound ops.toList h (fun F H a w hk hs => ⟨fun _ => by simp, by simp, F, H, hk, hs⟩) a w hs)
      · obtain ⟨F₀, H₀, h, hs⟩ := h.run.sat hs
        exact wp_region_list (opsx_sound ops.toList h (fun F H a w hk hs => ⟨fun _ => by simp, by simp, F, H, hk, hs⟩) a w hs)
    | true =>
      replace h : wRegion c.P c.ro c.nt c.n0 g id ops true F H Q := h
      unfold wRegion at h
      simp only at h
      split at h
      · obtain ⟨hb, h⟩ := needx_elim h
        simp only [Bool.and_eq_true] at hb
        refine wp_region_any hb.2 (anyG_any _ _ _ _ (anyx_sound (Q := Post c Q) Post.not_panic Post.not_out hb.1.1 hb.1.2 ops.size h (fun F H a w hk hs => ⟨fun _ => by simp, by simp, F, H, hk, hs⟩) _ a _ (Lists.nil ops) ?_))
        obtain ⟨β, hw, hf⟩ := hs
        exact ⟨β, hw.tick _, hf⟩
      · obtain ⟨hb, h⟩ := regx_elim h
        unfold regOK at hb
        simp only [Bool.and_eq_true] at hb
        obtain ⟨⟨⟨⟨h1, h2⟩, h3⟩, h4⟩, h5⟩ := hb
        refine wp_region_any h3 (anyG_any _ _ _ _ (seqx_sound (Q := Post c Q) Post.not_panic Post.not_out h1 h2 _ ops.size (Nat.le_of_ble_eq_true h4) h5 h (fun F H a w hk hs => ⟨fun _ => by simp, by simp, F, H, hk, hs⟩) _ a _ (Lists.nil ops) ?_))
        obtain ⟨β, hw, hf⟩ := hs
        exact ⟨β, hw.tick _, hf⟩
  | seq x y ihx ihy =>
    intro F H Q h a w hs
    refine wp_seq (Code.wp_mono (fun e a w hp => ?_) (ihx h a w hs))
    obtain ⟨h1, h2, F', H', hq, hs'⟩ := hp
    cases e with
    | normal => exact ihy hq a w hs'
    | _ => exact ⟨h1, h2, F', H', hq, hs'⟩
  | cond o x y ihx ihy =>
    intro F H Q h a w hs
    replace h : wCond o (wpx c.P c.ro c.nt c.n0 g x) (wpx c.P c.ro c.nt c.n0 g y) F H Q := h
    unfold wCond at h
    split at h
    · rename_i t ht
      have hev : a.eval o = .bool t := by
        obtain ⟨β, hw, hf⟩ := hs
        exact (rho_sound hf ht).1
      rcases condx_elim h with ⟨e, h⟩ | ⟨e, h⟩
      · subst e; exact wp_cond_true hev (ihx h a w hs)
      · subst e; exact wp_cond_false hev (ihy h a w hs)
    · exact h.elim
  | block id x ih =>
    intro F H Q h a w hs
    refine wp_block (Code.wp_mono (fun e a w hp => ?_) (ih h a w hs))
    obtain ⟨h1, h2, F', H', hq, hs'⟩ := hp
    cases e with
    | exit i =>
      simp only [Exit.inBlock]
      by_cases hi : i = id
      · subst hi
        simp only [Nat.beq_refl] at hq
        rw [if_pos rfl]
        exact ⟨fun _ => by simp, by simp, F', H', hq, hs'⟩
      · have hb : Nat.beq i id = false := by
          cases hb : Nat.beq i id with
          | false => rfl
          | true => exact absurd (Nat.eq_of_beq_eq_true hb) hi
        simp only [hb] at hq
        rw [if_neg hi]
        exact ⟨h1, h2, F', H', hq, hs'⟩
    | _ => exact ⟨h1, h2, F', H', hq, hs'⟩
  | loop x ih =>
    intro F H Q h a w hs
    replace h : loopx c.n0 (wpx c.P c.ro c.nt c.n0 g x) F H Q := h
    replace h := h.run
    obtain ⟨k, h⟩ := h
    refine InLoop.wp ?_
    induction k generalizing F H a w with
    | zero =>
      obtain ⟨I, n, h0, hround⟩ := h
      refine InLoop.idx (fun n a w => ∃ F H, I n F H ∧ Sat c F H a w) (fun n a w hJ => ?_) n a w (h0.sat hs)
      obtain ⟨F, H, hI, hs⟩ := hJ
      refine Code.wp_mono (fun e a w hp => ?_) (ih (hround n F H hI) a w hs)
      obtain ⟨h1, h2, F', H', hq, hs'⟩ := hp
      cases e with
      | normal =>
        obtain ⟨m, hm, hin⟩ := hq
        exact ⟨m, hm, hin.sat hs'⟩
      | _ => exact ⟨h1, h2, F', H', hq, hs'⟩
    | succ k ihk =>
      refine InLoop.step (Code.wp_mono (fun e a w hp => ?_) (ih h a w hs))
      obtain ⟨h1, h2, F', H', hq, hs'⟩ := hp
      cases e with
      | normal => exact ihk a w hs' hq
      | _ => exact ⟨h1, h2, F', H', hq, hs'⟩
  | exit id => intro F H Q h a w hs; exact wp_exit ⟨fun _ => by simp, by simp, F, H, h, hs⟩
  | ret => intro F H Q h a w hs; exact wp_ret ⟨fun _ => by simp, by simp, F, H, h, hs⟩
  | _ => intro F H Q h; exact False.elim h
end code

/-! ### Functions. -/
def frm0 : Nat → List V → Frm
  | _, [] => []
  | k, v :: l => (k, v) :: frm0 (k + 1) l
theorem look_frm0 : ∀ (l : List V) (k i : Nat) (v : V), look (frm0 k l) i = some v → k ≤ i ∧ l[i - k]? = some v
  | [], _, _, _, h => by cases h
  | u :: l, k, i, v, h => by
    unfold frm0 look at h
    split at h
    · rename_i he
      have : k = i := by simpa using he
      subst this
      injection h with h
      subst h
      simp
    · have := look_frm0 l (k + 1) i v h
      refine ⟨by omega, ?_⟩
      rw [show i - k = (i - (k + 1)) + 1 by omega]
      simpa using this.2
/-- What a function hands back. -/
def resl (P : Program) (ro : Addr → A → Prop) (F : Frm) (H : Hp) : List ResultVar → (List E → Prop) → Prop
  | [], K => K []
  | .tmp t :: l, K => optx (look F t) fun v => optx v.toE fun e => resl P ro F H l fun es => K (e :: es)
  | .cell a t :: l, K => optx (look F a) fun p => loadx P ro H t p fun v => optx v.toE fun e => resl P ro F H l fun es => K (e :: es)
def resx (P : Program) (ro : Addr → A → Prop) (rs : List ResultVar) (F : Frm) (H : Hp) (K : V → Hp → Prop) : Prop := match rs with
  | [.tmp t] => optx (look F t) fun v => K v H
  | [.cell a t] => optx (look F a) fun p => loadx P ro H t p fun v => K v H
  | rs => needx (!(Nat.beq rs.length 1)) (resl P ro F H rs fun es => K (.t es) H)
section funcs
variable {c : Ctx} {β : Num} {F : Frm} {H : Hp} {a : Act} {w : World}
def oneResult (tmps : Array Value) : ResultVar → Sem Value
  | .tmp t => pure (tmps.getD t undef)
  | .cell a t => do loadVar t (← asAddr (tmps.getD a undef))
theorem results_eq (fn : Func) (tmps : Array Value) : results fn tmps = (do
    let vs ← fn.results.toList.mapM (oneResult tmps)
    pure (if h : vs.toArray.size = 1 then vs.toArray[0] else .tuple vs.toArray)) := by
  unfold results
  rw [Array.mapM_eq_mapM_toList]
  simp only [bind_map_left]
  rfl
theorem slot_getD (hf : FSat c β F H a) {t : Nat} {v : V} (h : look F t = some v) : a.tmps.getD t undef = v.val β := by
  have := hf.slot t v h
  simp [Array.getD_eq_getD_getElem?, this]
theorem resl_sound (hw : WSat c β H w) (hf : FSat c β F H a) : ∀ (rs : List ResultVar) {K : List E → Prop}, resl c.P c.ro F H rs K →
    ∃ es, K es ∧ es.length = rs.length ∧ (∀ e ∈ es, e.fit β H.length) ∧ (rs.mapM (oneResult a.tmps)).run c.P w = .ok (es.map (E.val β)) w
  | [], K, h => ⟨[], h, rfl, by simp, rfl⟩
  | .tmp t :: l, K, h => by
    obtain ⟨v, hv, h⟩ := optx_elim (show optx _ _ from h)
    obtain ⟨e, he, h⟩ := optx_elim h
    obtain ⟨es, hk, hl, hok, hr⟩ := resl_sound hw hf l h
    refine ⟨e :: es, hk, by simp [hl], fun x hx => ?_, ?_⟩
    · rcases List.mem_cons.1 hx with rfl | hx
      · exact V.toE_fit he (hf.ok t v hv)
      · exact hok x hx
    · simp only [List.mapM_cons, oneResult, Sem.run_bind, Sem.run_pure, Result.andThen_ok, hr, slot_getD hf hv, List.map_cons, V.toE_val he]
  | .cell p t :: l, K, h => by
    obtain ⟨v, hv, h⟩ := optx_elim (show optx _ _ from h)
    obtain ⟨r, h, hl0⟩ := loadx_sound h
    obtain ⟨hrok, q, hq, hrun⟩ := hl0 β w hw (hf.ok p v hv).2
    obtain ⟨e, he, h⟩ := optx_elim h
    obtain ⟨es, hk, hl, hok, hr⟩ := resl_sound hw hf l h
    refine ⟨e :: es, hk, by simp [hl], fun x hx => ?_, ?_⟩
    · rcases List.mem_cons.1 hx with rfl | hx
      · exact V.toE_fit he hrok
      · exact hok x hx
    · have ha : (asAddr (a.tmps.getD p undef)).run c.P w = .ok q w := by rw [slot_getD hf hv, hq]; rfl
      simp only [List.mapM_cons, oneResult, Sem.run_bind, ha, Result.andThen_ok, hrun, hr, Sem.run_pure, List.map_cons, V.toE_val he]
theorem resx_sound {fn : Func} (hw : WSat c β H w) (hf : FSat c β F H a) {K : V → Hp → Prop} (h : resx c.P c.ro fn.results.toList F H K) :
    ∃ v, K v H ∧ v.fit β H.length ∧ (results fn a.tmps).run c.P w = .ok (v.val β) w := by
  rw [results_eq]
  unfold resx at h
  split at h
  · rename_i t hrs
    obtain ⟨v, hv, h⟩ := optx_elim h
    refine ⟨v, h, hf.ok t v hv, ?_⟩
    rw [hrs]
    simp [oneResult, slot_getD hf hv]
  · rename_i p t hrs
    obtain ⟨v, hv, h⟩ := optx_elim h
    obtain ⟨r, h, hl0⟩ := loadx_sound h
    obtain ⟨hrok, q, hq, hrun⟩ := hl0 β w hw (hf.ok p v hv).2
    have ha : (asAddr (a.tmps.getD p undef)).run c.P w = .ok q w := by rw [slot_getD hf hv, hq]; rfl
    refine ⟨r, h, hrok, ?_⟩
    rw [hrs]
    simp only [List.mapM_cons, List.mapM_nil, oneResult, Sem.run_bind, ha, Result.andThen_ok, hrun, Sem.run_pure]
    rfl
  · obtain ⟨hn, h⟩ := needx_elim h
    obtain ⟨es, hk, hl, hok, hr⟩ := resl_sound hw hf _ h
    refine ⟨.t es, hk, V.fit_t hok, ?_⟩
    have hne : ¬ (es.map (E.val β)).toArray.size = 1 := by
      simp only [List.size_toArray, List.length_map, hl]
      intro e
      rw [e] at hn
      simp at hn
    simp only [Sem.run_bind, hr, Result.andThen_ok, Sem.run_pure, dif_neg hne]
    rfl
end funcs
def endx (P : Program) (ro : Addr → A → Prop) (rs : List ResultVar) (K : V → Hp → Prop) (e : Exit) (F : Frm) (H : Hp) : Prop := match e with
  | .normal => resx P ro rs F H K
  | .ret => resx P ro rs F H K
  | _ => False
/-- A function by its code. -/
theorem Fn.of_code {P : Program} {ro : Addr → A → Prop} {f : FuncId} {fn : Func} {x : Code} {args : List V} {H : Hp} {K : V → Hp → Prop} (g : Hints) (hf : P.funcs[f]? = some fn) (hb : fn.body = some x) (hn : args.length ≤ fn.ntmps)
    (h : wpx P ro fn.ntmps H.length g x (frm0 0 args) H (endx P ro fn.results.toList K)) : Fn P ro f args H K := by
  refine ⟨fun β w hok hw => ?_⟩
  let c : Ctx := { P := P, ro := ro, n0 := H.length, β0 := β, w0 := w, nt := fn.ntmps }
  have hw' : WSat c β H w := ⟨hw.inj, hw.blk, hw.bare, hw.ok, hw.base, hw.n0, hw.fr, hw.new, hw.ro⟩
  refine calls_of_wp hf hb ?_
  let a : Act := { tmps := (args.map (V.val β)).toArray ++ Array.replicate (fn.ntmps - (args.map (V.val β)).toArray.size) undef, defers := [] }
  have hfs : FSat c β (frm0 0 args) H a := by
    refine ⟨fun i v hv => ?_, fun i v hv => ?_, ?_, rfl⟩
    · have := (look_frm0 args 0 i v hv).2
      rw [Nat.sub_zero] at this
      have hi : i < args.length := (List.getElem?_eq_some_iff.1 this).1
      show ((args.map (V.val β)).toArray ++ _)[i]? = _
      rw [Array.getElem?_append_left (by simpa using hi)]
      simp [this]
    · have := (look_frm0 args 0 i v hv).2
      rw [Nat.sub_zero] at this
      exact hok v (List.mem_of_getElem? this)
    · show ((args.map (V.val β)).toArray ++ Array.replicate _ _).size = fn.ntmps
      simp
      omega
  refine Code.wp_mono (fun e a w' hp => ?_) (code_sound (c := c) x h a w ⟨β, hw', hfs⟩)
  obtain ⟨_, _, F', H', hq, β', hw2, hf2⟩ := hp
  have fin : resx P ro fn.results.toList F' H' K → a.defers = [] ∧ ∃ v, (results fn a.tmps).run P w' = .ok v w' ∧ ∃ v' H' β', K v' H' ∧ Ending.returned v = .returned (v'.val β') ∧ v'.fit β' H'.length ∧
      Mv { P := P, ro := ro, n0 := H.length, β0 := β, w0 := w, nt := 0 } β H w β' H' w' := by
    intro hr
    obtain ⟨v, hk, hv, hrun⟩ := resx_sound (c := c) hw2 hf2 hr
    refine ⟨hf2.defers, _, hrun, v, H', β', hk, rfl, hv, ⟨⟨hw2.inj, hw2.blk, hw2.bare, hw2.ok, hw2.base, hw2.n0, hw2.fr, hw2.new, hw2.ro⟩, hw2.base, hw2.n0, hw2.fr, hw2.new⟩⟩
  cases e with
  | normal => exact fin hq
  | ret => exact fin hq
  | _ => exact hq.elim
end Go.Eng
