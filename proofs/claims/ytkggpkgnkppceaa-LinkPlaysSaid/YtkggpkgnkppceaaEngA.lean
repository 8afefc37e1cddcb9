/- The engine, part A: lists of operations; regions in whatever order. -/
import Derived.Test.YtkggpkgnkppceaaEng9
set_option linter.unusedVariables false
namespace Go.Eng

/-- A guarded operation: is it carried out? -/
def guardx (ops : Array Oper) (F : Frm) (o : Oper) (T E : Prop) : Prop := match o.guard with
  | none => T
  | some (j, want) => match (ops[j]?).bind (·.dst) with
    | some d => match look F d with
      | some (.a (.bool b)) => match want with
        | true => condx b T E
        | false => condx b E T
      | some (.t []) => E
      | _ => False
    | none => False
def dstOK (d : Option Nat) (nt : Nat) : Bool := match d with
  | some d => Nat.blt d nt
  | none => true
/-! Heaps and values are written out before the next step: what is not written out is worked out again and again. -/
def lits : List Nat := [0, 1, 2, 3, 4, 5, 6, 7, 8, 9, 10, 11, 12, 13, 14, 15, 16, 17, 18, 19, 20, 21, 22, 23, 24, 25, 26, 27, 28, 29, 30, 31, 32, 33, 34, 35, 36, 37, 38, 39, 40, 41, 42, 43, 44, 45, 46, 47, 48, 49, 50, 51, 52, 53, 54, 55, 56, 57, 58, 59, 60, 61, 62, 63, 64, 65, 66, 67, 68, 69, 70, 71, 72, 73, 74, 75, 76, 77, 78, 79, 80, 81, 82, 83, 84, 85, 86, 87, 88, 89, 90, 91, 92, 93, 94, 95, 96, 97, 98, 99, 100, 101, 102, 103, 104, 105, 106, 107, 108, 109, 110, 111, 112, 113, 114, 115, 116, 117, 118, 119, 120, 121, 122, 123, 124, 125, 126, 127, 128, 129, 130, 131, 132, 133, 134, 135, 136, 137, 138, 139, 140, 141, 142, 143, 144, 145, 146, 147, 148, 149, 150, 151, 152, 153, 154, 155, 156, 157, 158, 159, 160, 161, 162, 163, 164, 165, 166, 167, 168, 169, 170, 171, 172, 173, 174, 175, 176, 177, 178, 179, 180, 181, 182, 183, 184, 185, 186, 187, 188, 189, 190, 191, 192, 193, 194, 195, 196, 197, 198, 199, 200, 201, 202, 203, 204, 205, 206, 207, 208, 209, 210, 211, 212, 213, 214, 215, 216, 217, 218, 219, 220, 221, 222, 223, 224, 225, 226, 227, 228, 229, 230, 231, 232, 233, 234, 235, 236, 237, 238, 239, 240, 241, 242, 243, 244, 245, 246, 247, 248, 249, 250, 251, 252, 253, 254, 255]
/-- A small number is written out. -/
abbrev forceN (n : Nat) (K : Nat → Prop) : Prop := Option.rec (motive := fun _ => (Nat → Prop) → Prop) (fun K => K n) (fun m K => K m) lits[n]? K
/-- All of these by the recursors themselves: where one stops, the kernel meets the very term that 'whnf' stops at. -/
abbrev forceA (x : A) (K : A → Prop) : Prop := A.rec (motive := fun _ => (A → Prop) → Prop) (fun b K => K (.bool b)) (fun k n K => K (.int k n)) (fun k b K => K (.flt k b)) (fun k re im K => K (.cpx k re im)) (fun s K => K (.str s))
  (fun i o K => forceN i fun i => forceN o fun o => K (.ptr i o)) (fun K => K .nilp) (fun i o l c K => forceN i fun i => K (.slc i o l c)) (fun K => K .nils) (fun p K => K (.rptr p)) (fun p l c K => K (.rslc p l c)) (fun f caps K => K (.clo f caps)) (fun K => K .nilf) (fun K => K .nili) (fun t x _ K => K (.ifc t x)) (fun K => K .nilm) (fun K => K .nilc) x K
/-- By the recursor itself: on a variable row the kernel meets the very term that 'whnf' stops at. -/
abbrev forceL (l : List A) (K : List A → Prop) : Prop := List.rec (motive := fun _ => (List A → Prop) → Prop) (fun K => K []) (fun x _ ih K => forceA x fun x => ih fun ys => K (x :: ys)) l K
abbrev forceE (e : E) (K : E → Prop) : Prop := E.rec (motive := fun _ => (E → Prop) → Prop) (fun x K => forceA x fun x => K (.a x)) (fun cs K => forceL cs fun cs => K (.g cs)) e K
abbrev forceT (l : List E) (K : List E → Prop) : Prop := List.rec (motive := fun _ => (List E → Prop) → Prop) (fun K => K []) (fun x _ ih K => forceE x fun x => ih fun ys => K (x :: ys)) l K
abbrev forceV (v : V) (K : V → Prop) : Prop := V.rec (motive := fun _ => (V → Prop) → Prop) (fun x K => forceA x fun x => K (.a x)) (fun cs K => forceL cs fun cs => K (.g cs)) (fun xs K => forceT xs fun xs => K (.t xs)) v K
abbrev forceO (o : Ob) (K : Ob → Prop) : Prop := Ob.rec (motive := fun _ => (Ob → Prop) → Prop) (fun cs ty mk K => forceL cs fun cs => K (.cells cs ty mk)) (fun s p K => K (.iter s p)) o K
abbrev forceH (H : Hp) (K : Hp → Prop) : Prop := List.rec (motive := fun _ => (Hp → Prop) → Prop) (fun K => K []) (fun x _ ih K => forceO x fun x => ih fun ys => K (x :: ys)) H K
abbrev forceF (F : Frm) (K : Frm → Prop) : Prop := List.rec (motive := fun _ => (Frm → Prop) → Prop) (fun K => K []) (fun x l _ K => K (x :: l)) F K
theorem lits_get {n m : Nat} (h : lits[n]? = some m) : m = n := by
  have e : lits = List.range 256 := by decide +kernel
  rw [e] at h
  have := List.getElem?_eq_some_iff.1 h
  obtain ⟨h1, h2⟩ := this
  simpa using h2.symm
theorem forceN_eq (n : Nat) (K : Nat → Prop) : forceN n K = K n := by
  unfold forceN
  cases h : lits[n]? with
  | none => rfl
  | some m => rw [lits_get h]
theorem forceA_eq (x : A) (K : A → Prop) : forceA x K = K x := by
  cases x with
  | ptr i o => exact (forceN_eq i fun i => forceN o fun o => K (.ptr i o)).trans (forceN_eq o fun o => K (.ptr i o))
  | slc i o l c => exact forceN_eq i fun i => K (.slc i o l c)
  | _ => rfl
theorem forceL_eq (l : List A) (K : List A → Prop) : forceL l K = K l := by
  induction l generalizing K with
  | nil => rfl
  | cons x xs ih =>
    show (forceA x fun x => forceL xs fun ys => K (x :: ys)) = _
    rw [forceA_eq, ih]
theorem forceE_eq (e : E) (K : E → Prop) : forceE e K = K e := by
  cases e with
  | a x => exact forceA_eq x fun x => K (.a x)
  | g cs => exact forceL_eq cs fun cs => K (.g cs)
theorem forceT_eq (l : List E) (K : List E → Prop) : forceT l K = K l := by
  induction l generalizing K with
  | nil => rfl
  | cons x xs ih =>
    show (forceE x fun x => forceT xs fun ys => K (x :: ys)) = _
    rw [forceE_eq, ih]
theorem forceV_eq (v : V) (K : V → Prop) : forceV v K = K v := by
  cases v with
  | a x => exact forceA_eq x fun x => K (.a x)
  | g cs => exact forceL_eq cs fun cs => K (.g cs)
  | t xs => exact forceT_eq xs fun xs => K (.t xs)
theorem forceO_eq (o : Ob) (K : Ob → Prop) : forceO o K = K o := by
  cases o with
  | cells cs ty mk => exact forceL_eq cs fun cs => K (.cells cs ty mk)
  | iter s p => rfl
theorem forceH_eq (H : Hp) (K : Hp → Prop) : forceH H K = K H := by
  induction H generalizing K with
  | nil => rfl
  | cons x xs ih =>
    show (forceO x fun x => forceH xs fun ys => K (x :: ys)) = _
    rw [forceO_eq, ih]
theorem forceF_eq (F : Frm) (K : Frm → Prop) : forceF F K = K F := by
  cases F <;> rfl
/-- Does an operation touch the heap? (If not told so, the heap is not written out: no more than that.) -/
def touches (o : Op) : Bool := match o with
  | .alloc _ => true
  | .box _ _ => true
  | .store _ _ _ => true
  | .call c => match c.callee with
    | .builtin b => match b with
      | .append => true
      | .copy => true
      | .clear => true
      | _ => false
    | _ => true
  | .buildSlice _ _ _ => true
  | .makeSlice _ _ _ => true
  | .range _ _ => true
  | .next _ _ => true
  | _ => false
def forceX (b : Bool) (H : Hp) (K : Hp → Prop) : Prop := match b with
  | true => forceH H K
  | false => K H
theorem forceX_eq (b : Bool) (H : Hp) (K : Hp → Prop) : forceX b H K = K H := by
  cases b <;> simp [forceX, forceH_eq]
def nextx (o : Oper) (v : V) (F : Frm) (H : Hp) (K : Frm → Hp → Prop) : Prop := forceV v fun v => forceX (touches o.op) H fun H => forceF (put o.dst v F) fun F => K F H
theorem nextx_eq (o : Oper) (v : V) (F : Frm) (H : Hp) (K : Frm → Hp → Prop) : nextx o v F H K = K (put o.dst v F) H := by
  simp only [nextx, forceV_eq, forceX_eq, forceF_eq]
/-- One operation, its guard and its slot. -/
def stepx (P : Program) (ro : Addr → A → Prop) (nt : Nat) (ops : Array Oper) (o : Oper) (F : Frm) (H : Hp) (K : Frm → Hp → Prop) : Prop :=
  needx (dstOK o.dst nt) (guardx ops F o (opx P ro F H o fun v H' => nextx o v F H' K) (K (put o.dst (.t []) F) H))
/-- By the recursor itself: what is left behind an operation is the very term that the kernel meets. -/
def opsCons (P : Program) (ro : Addr → A → Prop) (nt : Nat) (ops : Array Oper) (o : Oper) (k : Frm → Hp → (Frm → Hp → Prop) → Prop) (F : Frm) (H : Hp) (K : Frm → Hp → Prop) : Prop :=
  stepx P ro nt ops o F H fun F H => k F H K
def opsNil (F : Frm) (H : Hp) (K : Frm → Hp → Prop) : Prop := K F H
def opsx (P : Program) (ro : Addr → A → Prop) (nt : Nat) (ops : Array Oper) (l : List Oper) : Frm → Hp → (Frm → Hp → Prop) → Prop :=
  List.rec (motive := fun _ => Frm → Hp → (Frm → Hp → Prop) → Prop) opsNil (fun o _ k => opsCons P ro nt ops o k) l

section lists
variable {c : Ctx} {o : Oper} {β : Num} {F : Frm} {H : Hp} {a : Act} {w : World}

/-- What the world and the frame are, whatever the numbers. -/
def Sat (c : Ctx) (F : Frm) (H : Hp) (a : Act) (w : World) : Prop := ∃ β, WSat c β H w ∧ FSat c β F H a

theorem guardx_sound {ops : Array Oper} {T E : Prop} (hf : FSat c β F H a) (h : guardx ops F o T E) :
    (Region.wanted o (yielded ops a.tmps) = true ∧ T) ∨ (Region.wanted o (yielded ops a.tmps) = false ∧ E) := by
  unfold guardx at h
  split at h
  · rename_i hg
    exact .inl ⟨by simp [Region.wanted, hg], h⟩
  · rename_i j want hg
    split at h
    · rename_i d hd
      split at h
      · rename_i b hb
        have hs := hf.slot d _ hb
        have hy : yielded ops a.tmps j = some b := by simp [yielded, hd, hs, V.val_a, A.val]
        cases want with
        | true =>
          rcases condx_elim h with ⟨e, h⟩ | ⟨e, h⟩
          · exact .inl ⟨by simp [Region.wanted, hg, hy, e], h⟩
          · exact .inr ⟨by simp [Region.wanted, hg, hy, e], h⟩
        | false =>
          rcases condx_elim h with ⟨e, h⟩ | ⟨e, h⟩
          · exact .inr ⟨by simp [Region.wanted, hg, hy, e], h⟩
          · exact .inl ⟨by simp [Region.wanted, hg, hy, e], h⟩
      · rename_i hb
        have hs := hf.slot d _ hb
        have hy : yielded ops a.tmps j = none := by simp [yielded, hd, hs, V.val]
        exact .inr ⟨by simp [Region.wanted, hg, hy], h⟩
      · exact h.elim
    · exact h.elim
theorem dst_lt {d : Option Nat} {nt : Nat} (h : dstOK d nt = true) : ∀ i, d = some i → i < nt := by
  intro i e
  subst e
  simpa [dstOK, Nat.blt_eq] using h
theorem fsat_undef (hf : FSat c β F H a) (hw : WSat c β H w) (hd : ∀ i, o.dst = some i → i < c.nt) : FSat c β (put o.dst (.t []) F) H (a.put o.dst undef) :=
  hf.put (v := .t []) (Mv.refl hw) hd (V.fit_t fun x hx => by cases hx)
theorem opsx_sound {ops : Array Oper} {Q : Exit → Act → World → Prop} : ∀ (l : List Oper) {F : Frm} {H : Hp} {K : Frm → Hp → Prop}, opsx c.P c.ro c.nt ops l F H K →
    (∀ F H a w, K F H → Sat c F H a w → Q .normal a w) → ∀ a w, Sat c F H a w → wpList c.P ops Q l a w
  | [], F, H, K, h, hq, a, w, hs => hq F H a w h hs
  | o :: l, F, H, K, h, hq, a, w, ⟨β, hw, hf⟩ => by
    obtain ⟨hd, h⟩ := needx_elim (show needx _ _ from h)
    have hd' := dst_lt hd
    unfold wpList
    rcases guardx_sound hf h with ⟨hwant, h⟩ | ⟨hwant, h⟩
    · rw [if_pos hwant]
      exact .inl (opx_ok h β a w hw hf _ _ fun v H' β' w' hk hv mv => opsx_sound l (by rw [nextx_eq] at hk; exact hk) hq _ _ ⟨β', mv.sat, hf.put mv hd' hv⟩)
    · rw [if_neg (by simp [hwant])]
      exact opsx_sound l h hq _ _ ⟨β, hw, fsat_undef hf hw hd'⟩
end lists

/-! ### Whatever order. -/
section order
/-- May the rest be carried out in whatever order? As 'wpAny', but that a flagged operation lets the world but grow. -/
def opG (P : Program) (ops : Array Oper) (flag : Nat → Bool) (Q : Exit → Act → World → Prop) (i : Nat) (K : Act → World → Prop) (a : Act) (w : World) : Prop :=
  match ops[i]? with
  | none => K a w
  | some o => if Region.wanted o (yielded ops a.tmps) then o.wp P a w (fun a' w' => (flag i = true → Grows w w') ∧ K a' w') Q else K (a.put o.dst undef) w
def anyG (P : Program) (ops : Array Oper) (flag : Nat → Bool) (Q : Exit → Act → World → Prop) : Nat → Array Bool → Act → World → Prop
  | 0, listed, a, w => Region.ready .any ops listed = [] ∧ Q .normal a w
  | n + 1, listed, a, w => (Region.ready .any ops listed = [] → Q .normal a w) ∧
    ∀ i ∈ Region.ready .any ops listed, opG P ops flag Q i (anyG P ops flag Q n (listed.setIfInBounds i true)) a w
variable {P : Program} {ops : Array Oper} {flag : Nat → Bool} {Q : Exit → Act → World → Prop}
theorem opG_mono {i : Nat} {a : Act} {w : World} {K K' : Act → World → Prop} (h : ∀ a w, K a w → K' a w) (hh : opG P ops flag Q i K a w) : opG P ops flag Q i K' a w := by
  unfold opG at *
  split
  · exact h _ _ (by simpa [*] using hh)
  · rename_i o ho
    simp only [ho] at hh
    split
    · rename_i hw; simp only [hw, if_true] at hh; exact Oper.wp_mono (fun a w h' => ⟨h'.1, h _ _ h'.2⟩) hh
    · rename_i hw; simp only [hw] at hh; exact h _ _ hh
theorem anyG_any : ∀ (n : Nat) (listed : Array Bool) (a : Act) (w : World), anyG P ops flag Q n listed a w → wpAny P .any ops Q n listed a w
  | 0, _, _, _, h => h
  | n + 1, listed, a, w, h => ⟨h.1, fun i hi => by
    have := h.2 i hi
    unfold opG at this
    unfold wpOp
    split
    · rename_i ho
      simp only [ho] at this
      exact anyG_any n _ _ _ this
    · rename_i o ho
      simp only [ho] at this
      split
      · rename_i hw
        simp only [hw, if_true] at this
        exact .inl (Oper.wp_mono (fun a w h' => anyG_any n _ _ _ h'.2) this)
      · rename_i hw
        simp only [hw] at this
        exact anyG_any n _ _ _ this⟩
/-- In this frame the operation yields v, in every world of the class, and leaves it alone. -/
def YieldsC (P : Program) (ops : Array Oper) (C : World → Prop) (o : Oper) (v : Value) (a : Act) : Prop :=
  (Region.wanted o (yielded ops a.tmps) = true ∧ ∀ w, C w → (execOp a.eval o).run P w = .ok (.value v) w) ∨
  (Region.wanted o (yielded ops a.tmps) = false ∧ v = undef)
theorem YieldsC.of_same {C : World → Prop} {o : Oper} {v : Value} {a a' : Act} (hy : YieldsC P ops C o v a) (he : execOp a'.eval o = execOp a.eval o)
    (hw : Region.wanted o (yielded ops a'.tmps) = Region.wanted o (yielded ops a.tmps)) : YieldsC P ops C o v a' := by
  unfold YieldsC at *
  rw [he, hw]
  exact hy
theorem YieldsC.opG {C : World → Prop} {i : Nat} {o : Oper} {v : Value} {a : Act} (hi : ops[i]? = some o) (hy : YieldsC P ops C o v a) {K : Act → World → Prop} {w : World} (hC : C w) (h : K (a.put o.dst v) w) : opG P ops flag Q i K a w := by
  unfold Eng.opG
  simp only [hi]
  rcases hy with ⟨hw, hv⟩ | ⟨hw, rfl⟩
  · simp only [hw, if_true, Oper.wp, hv w hC, Oper.upon]
    exact ⟨fun _ => Grows.refl w, h⟩
  · simp only [hw, Bool.false_eq_true, if_false]
    exact h
theorem opG_put {C : World → Prop} {j : Nat} {oi oj : Oper} {v : Value} (hj : ops[j]? = some oj) (hap : oi.apart ops oj = true)
    (hsi : ∀ cs b, oi.op ≠ .select cs b) (hsj : ∀ cs b, oj.op ≠ .select cs b)
    (hQ : ∀ c a w, ¬ Q (.panic c) a w) (hQo : ¬ LetsOut Q) {K : Act → World → Prop} {a : Act} {w : World}
    (hy : YieldsC P ops C oi v a) (h : opG P ops flag Q j K (a.put oi.dst v) w) :
    opG P ops flag Q j (fun a' w' => YieldsC P ops C oi v a' ∧ K (a'.put oi.dst v) w') a w := by
  obtain ⟨h1, h2, h3⟩ := Oper.apart_spec hap
  have keep : ∀ (a : Act), YieldsC P ops C oi v a → ∀ u, YieldsC P ops C oi v (a.put oj.dst u) := fun a hy u =>
    hy.of_same (execOp_put oi hsi a oj.dst u h3) (wanted_put oi a oj.dst u h3)
  have keepD : ∀ d, YieldsC P ops C oi v { a with defers := d :: a.defers } := fun d => hy.of_same rfl rfl
  unfold opG at *
  simp only [hj] at *
  rw [wanted_put oj a oi.dst v h1] at h
  split
  · rename_i hw
    simp only [hw, if_true] at h
    unfold Oper.wp at *
    rw [execOp_put oj hsj a oi.dst v h1] at h
    generalize (execOp a.eval oj).run P w = r at *
    cases r with
    | ok n w' =>
      cases n <;> simp only [Oper.upon] at h ⊢
      case value u => exact ⟨h.1, keep a hy u, by rw [← Act.put_comm a v u h2]; exact h.2⟩
      case skip => exact ⟨h.1, keep a hy _, by rw [← Act.put_comm a v Go.undef h2]; exact h.2⟩
      case defer d =>
        refine ⟨h.1, keep _ (keepD d) _, ?_⟩
        rw [← Act.put_comm _ v Go.undef h2, ← Act.put_defers]
        exact h.2
      case enter f args =>
        refine Calls.mono h fun e w'' he => ?_
        cases e with
        | returned u => exact ⟨he.1, keep a hy u, by rw [← Act.put_comm a v u h2]; exact he.2⟩
        | panicked c => exact (hQ _ _ _ he).elim
        | outgrown => exact he
      case row row args => exact Rows.mono h fun u w'' he => ⟨he.1, keep a hy u, by rw [← Act.put_comm a v u h2]; exact he.2⟩
    | halt x w' =>
      cases x <;> simp only [Oper.upon] at h ⊢
      case panic u => exact (hQ _ _ _ h).elim
  · rename_i hw
    simp only [hw] at h
    exact ⟨keep a hy _, by rw [← Act.put_comm a v Go.undef h2]; exact h⟩
/-- An operation that yields one value and leaves the world alone may be taken first. W: operations that wait for it; V: those of them that are known not to be listed. -/
theorem anyG_first {C : World → Prop} (hCg : ∀ w w', C w → Grows w w' → C w') {i : Nat} {oi : Oper} {v : Value} (hi : ops[i]? = some oi) (hsel : ∀ (j : Nat) (o : Oper) cs b, ops[j]? = some o → o.op ≠ .select cs b)
    (hQ : ∀ c a w, ¬ Q (.panic c) a w) (hQo : ¬ LetsOut Q) {W V : Nat → Prop} (hVW : ∀ k, V k → W k)
    (hW : ∀ (j : Nat) (oj : Oper), ops[j]? = some oj → W j → ∃ e ∈ oj.after, Region.binds .any e = true ∧ (e.on = i ∨ V e.on)) :
    ∀ (fuel : Nat) (listed : Array Bool) (a : Act) (w : World),
      (∀ k, V k → listed.getD k true = false ∨ listed.size ≤ k) → (∀ j oj, ops[j]? = some oj → j ≠ i → listed.getD j true = false → ¬ W j → oi.apart ops oj = true ∧ ((∀ w, C w) ∨ flag j = true)) →
      i ∈ Region.ready .any ops listed → YieldsC P ops C oi v a → C w →
      anyG P ops flag Q fuel (listed.setIfInBounds i true) (a.put oi.dst v) w → anyG P ops flag Q (fuel + 1) listed a w := by
  intro fuel
  induction fuel with
  | zero =>
    intro listed a w _ _ hr hy hC H
    refine ⟨fun h => (by rw [h] at hr; cases hr), fun j hj => ?_⟩
    by_cases hji : j = i
    · subst hji; exact hy.opG hi hC H
    · have := ready_mono hj hji
      rw [H.1] at this
      cases this
  | succ fuel ih =>
    intro listed a w hV hfree hr hy hC H
    refine ⟨fun h => (by rw [h] at hr; cases hr), fun j hj => ?_⟩
    by_cases hji : j = i
    · subst hji; exact hy.opG hi hC H
    · have h1 := H.2 j (ready_mono hj hji)
      obtain ⟨hjun, oj, hoj, hall⟩ := mem_ready.1 hj
      have hnot : ¬ W j := fun hwj => by
        obtain ⟨e, he, hb, heq⟩ := hW j oj hoj hwj
        have h1 := hall e he hb
        have hu : listed.getD e.on true = false ∨ listed.size ≤ e.on := by
          rcases heq with heq | heq
          · rw [heq]; exact .inl (mem_ready.1 hr).1
          · exact hV _ heq
        rcases Nat.lt_or_ge e.on listed.size with h' | h'
        · rcases hu with hu | hu
          · simp [h'] at hu h1; rw [hu] at h1; cases h1
          · omega
        · simp [Array.getElem?_eq_none h'] at h1
      have hV' : ∀ k, V k → (listed.setIfInBounds j true).getD k true = false ∨ (listed.setIfInBounds j true).size ≤ k := fun k hk => by
        have hkj : j ≠ k := fun e => hnot (by rw [e]; exact hVW k hk)
        rcases hV k hk with h' | h'
        · exact .inl (by rw [getD_set_ne true hkj]; exact h')
        · exact .inr (by simpa using h')
      obtain ⟨hap, hcls⟩ := hfree j oj hoj hji hjun hnot
      have h2 := opG_put hoj hap (fun cs b => hsel i oi cs b hi) (fun cs b => hsel j oj cs b hoj) hQ hQo hy h1
      have hfree' : ∀ k ok, ops[k]? = some ok → k ≠ i → (listed.setIfInBounds j true).getD k true = false →
          ¬ W k → oi.apart ops ok = true ∧ ((∀ w, C w) ∨ flag k = true) := fun k ok hk hki hun hno => by
        refine hfree k ok hk hki ?_ hno
        by_cases hjk : j = k
        · subst hjk; exact hjun
        · rw [getD_set_ne true hjk] at hun; exact hun
      have goOn : ∀ a' w', (flag j = true → Grows w w') → YieldsC P ops C oi v a' ∧ anyG P ops flag Q fuel ((listed.setIfInBounds i true).setIfInBounds j true) (a'.put oi.dst v) w' → anyG P ops flag Q (fuel + 1) (listed.setIfInBounds j true) a' w' := by
        intro a' w' hg h3
        refine ih (listed.setIfInBounds j true) a' w' hV' hfree' (ready_mono hr (Ne.symm hji)) h3.1 ?_ ?_
        · rcases hcls with hall | hfl
          · exact hall w'
          · exact hCg w w' hC (hg hfl)
        · rw [Array.setIfInBounds_comm _ _ hji]
          exact h3.2
      unfold opG at h2 ⊢
      simp only [hoj] at h2 ⊢
      split
      · rename_i hw
        simp only [hw, if_true] at h2
        exact Oper.wp_mono (fun a' w' h' => ⟨h'.1, goOn a' w' h'.1 h'.2⟩) h2
      · rename_i hw
        simp only [hw] at h2
        exact goOn _ _ (fun _ => Grows.refl w) h2
end order
end Go.Eng
