/- The engine, parts A B C D E F. -/
import Derived.Below
import Derived.ChangeKeysEq
import Derived.ChangeOld
import Derived.OpenShut
import Derived.Test.YtimddbgnaeeggaaDoorEng9
import Derived.WalkKit
/- The engine, part A: lists of operations; regions in whatever order. -/
set_option linter.unusedVariables false
namespace Go.Eng

/-- A guarded operation: is it carried out? -/
def guardx (ops : Array Oper) (F : Frm) (o : Oper) (T E : Prop) : Prop := match o.guard with
  | none => T
  | some (j, want) => match (ops[j]?).bind (·.dst) with
    | some d => match look F d with
      | some (.a (.bool b)) => match want with
        | true => condx b T E
        | false => condx b E T
      | some (.t []) => E
      | _ => False
    | none => False
def dstOK (d : Option Nat) (nt : Nat) : Bool := match d with
  | some d => Nat.blt d nt
  | none => true
/-! Heaps and values are written out before the next step: what is not written out is worked out again and again. -/
def lits : List Nat := [0, 1, 2, 3, 4, 5, 6, 7, 8, 9, 10, 11, 12, 13, 14, 15, 16, 17, 18, 19, 20, 21, 22, 23, 24, 25, 26, 27, 28, 29, 30, 31, 32, 33, 34, 35, 36, 37, 38, 39, 40, 41, 42, 43, 44, 45, 46, 47, 48, 49, 50, 51, 52, 53, 54, 55, 56, 57, 58, 59, 60, 61, 62, 63, 64, 65, 66, 67, 68, 69, 70, 71, 72, 73, 74, 75, 76, 77, 78, 79, 80, 81, 82, 83, 84, 85, 86, 87, 88, 89, 90, 91, 92, 93, 94, 95, 96, 97, 98, 99, 100, 101, 102, 103, 104, 105, 106, 107, 108, 109, 110, 111, 112, 113, 114, 115, 116, 117, 118, 119, 120, 121, 122, 123, 124, 125, 126, 127, 128, 129, 130, 131, 132, 133, 134, 135, 136, 137, 138, 139, 140, 141, 142, 143, 144, 145, 146, 147, 148, 149, 150, 151, 152, 153, 154, 155, 156, 157, 158, 159, 160, 161, 162, 163, 164, 165, 166, 167, 168, 169, 170, 171, 172, 173, 174, 175, 176, 177, 178, 179, 180, 181, 182, 183, 184, 185, 186, 187, 188, 189, 190, 191, 192, 193, 194, 195, 196, 197, 198, 199, 200, 201, 202, 203, 204, 205, 206, 207, 208, 209, 210, 211, 212, 213, 214, 215, 216, 217, 218, 219, 220, 221, 222, 223, 224, 225, 226, 227, 228, 229, 230, 231, 232, 233, 234, 235, 236, 237, 238, 239, 240, 241, 242, 243, 244, 245, 246, 247, 248, 249, 250, 251, 252, 253, 254, 255]
/-- A small number is written out. -/
abbrev forceN (n : Nat) (K : Nat → Prop) : Prop := Option.rec (motive := fun _ => (Nat → Prop) → Prop) (fun K => K n) (fun m K => K m) lits[n]? K
/-- All of these by the recursors themselves: where one stops, the kernel meets the very term that 'whnf' stops at. -/
abbrev forceA (x : A) (K : A → Prop) : Prop := A.rec (motive := fun _ => (A → Prop) → Prop) (fun b K => K (.bool b)) (fun k n K => K (.int k n)) (fun k b K => K (.flt k b)) (fun k re im K => K (.cpx k re im)) (fun s K => K (.str s))
  (fun i o K => forceN i fun i => forceN o fun o => K (.ptr i o)) (fun K => K .nilp) (fun i o l c K => forceN i fun i => K (.slc i o l c)) (fun K => K .nils) (fun p K => K (.rptr p)) (fun p l c K => K (.rslc p l c)) (fun f caps K => K (.clo f caps)) (fun K => K .nilf) (fun K => K .nili) (fun t x _ K => K (.ifc t x)) (fun K => K .nilm) (fun K => K .nilc) x K
/-- By the recursor itself: on a variable row the kernel meets the very term that 'whnf' stops at. -/
abbrev forceL (l : List A) (K : List A → Prop) : Prop := List.rec (motive := fun _ => (List A → Prop) → Prop) (fun K => K []) (fun x _ ih K => forceA x fun x => ih fun ys => K (x :: ys)) l K
abbrev forceE (e : E) (K : E → Prop) : Prop := E.rec (motive := fun _ => (E → Prop) → Prop) (fun x K => forceA x fun x => K (.a x)) (fun cs K => forceL cs fun cs => K (.g cs)) e K
abbrev forceT (l : List E) (K : List E → Prop) : Prop := List.rec (motive := fun _ => (List E → Prop) → Prop) (fun K => K []) (fun x _ ih K => forceE x fun x => ih fun ys => K (x :: ys)) l K
abbrev forceV (v : V) (K : V → Prop) : Prop := V.rec (motive := fun _ => (V → Prop) → Prop) (fun x K => forceA x fun x => K (.a x)) (fun cs K => forceL cs fun cs => K (.g cs)) (fun xs K => forceT xs fun xs => K (.t xs)) v K
abbrev forceO (o : Ob) (K : Ob → Prop) : Prop := Ob.rec (motive := fun _ => (Ob → Prop) → Prop) (fun cs ty mk K => forceL cs fun cs => K (.cells cs ty mk)) (fun s p K => K (.iter s p)) o K
abbrev forceH (H : Hp) (K : Hp → Prop) : Prop := List.rec (motive := fun _ => (Hp → Prop) → Prop) (fun K => K []) (fun x _ ih K => forceO x fun x => ih fun ys => K (x :: ys)) H K
abbrev forceF (F : Frm) (K : Frm → Prop) : Prop := List.rec (motive := fun _ => (Frm → Prop) → Prop) (fun K => K []) (fun x l _ K => K (x :: l)) F K
theorem lits_get {n m : Nat} (h : lits[n]? = some m) : m = n := by
  have e : lits = List.range 256 := by decide +kernel
  rw [e] at h
  have := List.getElem?_eq_some_iff.1 h
  obtain ⟨h1, h2⟩ := this
  simpa using h2.symm
theorem forceN_eq (n : Nat) (K : Nat → Prop) : forceN n K = K n := by
  unfold forceN
  cases h : lits[n]? with
  | none => rfl
  | some m => rw [lits_get h]
theorem forceA_eq (x : A) (K : A → Prop) : forceA x K = K x := by
  cases x with
  | ptr i o => exact (forceN_eq i fun i => forceN o fun o => K (.ptr i o)).trans (forceN_eq o fun o => K (.ptr i o))
  | slc i o l c => exact forceN_eq i fun i => K (.slc i o l c)
  | _ => rfl
theorem forceL_eq (l : List A) (K : List A → Prop) : forceL l K = K l := by
  induction l generalizing K with
  | nil => rfl
  | cons x xs ih =>
    show (forceA x fun x => forceL xs fun ys => K (x :: ys)) = _
    rw [forceA_eq, ih]
theorem forceE_eq (e : E) (K : E → Prop) : forceE e K = K e := by
  cases e with
  | a x => exact forceA_eq x fun x => K (.a x)
  | g cs => exact forceL_eq cs fun cs => K (.g cs)
theorem forceT_eq (l : List E) (K : List E → Prop) : forceT l K = K l := by
  induction l generalizing K with
  | nil => rfl
  | cons x xs ih =>
    show (forceE x fun x => forceT xs fun ys => K (x :: ys)) = _
    rw [forceE_eq, ih]
theorem forceV_eq (v : V) (K : V → Prop) : forceV v K = K v := by
  cases v with
  | a x => exact forceA_eq x fun x => K (.a x)
  | g cs => exact forceL_eq cs fun cs => K (.g cs)
  | t xs => exact forceT_eq xs fun xs => K (.t xs)
theorem forceO_eq (o : Ob) (K : Ob → Prop) : forceO o K = K o := by
  cases o with
  | cells cs ty mk => exact forceL_eq cs fun cs => K (.cells cs ty mk)
  | iter s p => rfl
theorem forceH_eq (H : Hp) (K : Hp → Prop) : forceH H K = K H := by
  induction H generalizing K with
  | nil => rfl
  | cons x xs ih =>
    show (forceO x fun x => forceH xs fun ys => K (x :: ys)) = _
    rw [forceO_eq, ih]
theorem forceF_eq (F : Frm) (K : Frm → Prop) : forceF F K = K F := by
  cases F <;> rfl
/-- Does an operation touch the heap? (If not told so, the heap is not written out: no more than that.) -/
def touches (o : Op) : Bool := match o with
  | .alloc _ => true
  | .box _ _ => true
  | .store _ _ _ => true
  | .call c => match c.callee with
    | .builtin b => match b with
      | .append => true
      | .copy => true
      | .clear => true
      | _ => false
    | _ => true
  | .buildSlice _ _ _ => true
  | .makeSlice _ _ _ => true
  | .range _ _ => true
  | .next _ _ => true
  | _ => false
def forceX (b : Bool) (H : Hp) (K : Hp → Prop) : Prop := match b with
  | true => forceH H K
  | false => K H
theorem forceX_eq (b : Bool) (H : Hp) (K : Hp → Prop) : forceX b H K = K H := by
  cases b <;> simp [forceX, forceH_eq]
def nextx (o : Oper) (v : V) (F : Frm) (H : Hp) (K : Frm → Hp → Prop) : Prop := forceV v fun v => forceX (touches o.op) H fun H => forceF (put o.dst v F) fun F => K F H
theorem nextx_eq (o : Oper) (v : V) (F : Frm) (H : Hp) (K : Frm → Hp → Prop) : nextx o v F H K = K (put o.dst v F) H := by
  simp only [nextx, forceV_eq, forceX_eq, forceF_eq]
/-- One operation, its guard and its slot. -/
def stepx (P : Program) (ro : Addr → A → Prop) (nt : Nat) (ops : Array Oper) (o : Oper) (F : Frm) (H : Hp) (K : Frm → Hp → Prop) : Prop :=
  needx (dstOK o.dst nt) (guardx ops F o (opx P ro F H o fun v H' => nextx o v F H' K) (K (put o.dst (.t []) F) H))
/-- By the recursor itself: what is left behind an operation is the very term that the kernel meets. -/
def opsCons (P : Program) (ro : Addr → A → Prop) (nt : Nat) (ops : Array Oper) (o : Oper) (k : Frm → Hp → (Frm → Hp → Prop) → Prop) (F : Frm) (H : Hp) (K : Frm → Hp → Prop) : Prop :=
  stepx P ro nt ops o F H fun F H => k F H K
def opsNil (F : Frm) (H : Hp) (K : Frm → Hp → Prop) : Prop := K F H
def opsx (P : Program) (ro : Addr → A → Prop) (nt : Nat) (ops : Array Oper) (l : List Oper) : Frm → Hp → (Frm → Hp → Prop) → Prop :=
  List.rec (motive := fun _ => Frm → Hp → (Frm → Hp → Prop) → Prop) opsNil (fun o _ k => opsCons P ro nt ops o k) l

section lists
variable {c : Ctx} {o : Oper} {β : Num} {F : Frm} {H : Hp} {a : Act} {w : World}

/-- What the world and the frame are, whatever the numbers. -/
def Sat (c : Ctx) (F : Frm) (H : Hp) (a : Act) (w : World) : Prop := ∃ β, WSat c β H w ∧ FSat c β F H a

theorem guardx_sound {ops : Array Oper} {T E : Prop} (hf : FSat c β F H a) (h : guardx ops F o T E) :
    (Region.wanted o (yielded ops a.tmps) = true ∧ T) ∨ (Region.wanted o (yielded ops a.tmps) = false ∧ E) := by
  unfold guardx at h
  split at h
  · rename_i hg
    exact .inl ⟨by simp [Region.wanted, hg], h⟩
  · rename_i j want hg
    split at h
    · rename_i d hd
      split at h
      · rename_i b hb
        have hs := hf.slot d _ hb
        have hy : yielded ops a.tmps j = some b := by simp [yielded, hd, hs, V.val_a, A.val]
        cases want with
        | true =>
          rcases condx_elim h with ⟨e, h⟩ | ⟨e, h⟩
          · exact .inl ⟨by simp [Region.wanted, hg, hy, e], h⟩
          · exact .inr ⟨by simp [Region.wanted, hg, hy, e], h⟩
        | false =>
          rcases condx_elim h with ⟨e, h⟩ | ⟨e, h⟩
          · exact .inr ⟨by simp [Region.wanted, hg, hy, e], h⟩
          · exact .inl ⟨by simp [Region.wanted, hg, hy, e], h⟩
      · rename_i hb
        have hs := hf.slot d _ hb
        have hy : yielded ops a.tmps j = none := by simp [yielded, hd, hs, V.val]
        exact .inr ⟨by simp [Region.wanted, hg, hy], h⟩
      · exact h.elim
    · exact h.elim
theorem dst_lt {d : Option Nat} {nt : Nat} (h : dstOK d nt = true) : ∀ i, d = some i → i < nt := by
  intro i e
  subst e
  simpa [dstOK, Nat.blt_eq] using h
theorem fsat_undef (hf : FSat c β F H a) (hw : WSat c β H w) (hd : ∀ i, o.dst = some i → i < c.nt) : FSat c β (put o.dst (.t []) F) H (a.put o.dst undef) :=
  hf.put (v := .t []) (Mv.refl hw) hd (V.fit_t fun x hx => by cases hx)
theorem opsx_sound {ops : Array Oper} {Q : Exit → Act → World → Prop} : ∀ (l : List Oper) {F : Frm} {H : Hp} {K : Frm → Hp → Prop}, opsx c.P c.ro c.nt ops l F H K →
    (∀ F H a w, K F H → Sat c F H a w → Q .normal a w) → ∀ a w, Sat c F H a w → wpList c.P ops Q l a w
  | [], F, H, K, h, hq, a, w, hs => hq F H a w h hs
  | o :: l, F, H, K, h, hq, a, w, ⟨β, hw, hf⟩ => by
    obtain ⟨hd, h⟩ := needx_elim (show needx _ _ from h)
    have hd' := dst_lt hd
    unfold wpList
    rcases guardx_sound hf h with ⟨hwant, h⟩ | ⟨hwant, h⟩
    · rw [if_pos hwant]
      exact .inl (opx_ok h β a w hw hf _ _ fun v H' β' w' hk hv mv => opsx_sound l (by rw [nextx_eq] at hk; exact hk) hq _ _ ⟨β', mv.sat, hf.put mv hd' hv⟩)
    · rw [if_neg (by simp [hwant])]
      exact opsx_sound l h hq _ _ ⟨β, hw, fsat_undef hf hw hd'⟩
end lists

/-! ### Whatever order. -/
section order
/-- May the rest be carried out in whatever order? As 'wpAny', but that a flagged operation lets the world but grow. -/
def opG (P : Program) (ops : Array Oper) (flag : Nat → Bool) (Q : Exit → Act → World → Prop) (i : Nat) (K : Act → World → Prop) (a : Act) (w : World) : Prop :=
  match ops[i]? with
  | none => K a w
  | some o => if Region.wanted o (yielded ops a.tmps) then o.wp P a w (fun a' w' => (flag i = true → Grows w w') ∧ K a' w') Q else K (a.put o.dst undef) w
def anyG (P : Program) (ops : Array Oper) (flag : Nat → Bool) (Q : Exit → Act → World → Prop) : Nat → Array Bool → Act → World → Prop
  | 0, listed, a, w => Region.ready .any ops listed = [] ∧ Q .normal a w
  | n + 1, listed, a, w => (Region.ready .any ops listed = [] → Q .normal a w) ∧
    ∀ i ∈ Region.ready .any ops listed, opG P ops flag Q i (anyG P ops flag Q n (listed.setIfInBounds i true)) a w
variable {P : Program} {ops : Array Oper} {flag : Nat → Bool} {Q : Exit → Act → World → Prop}
theorem opG_mono {i : Nat} {a : Act} {w : World} {K K' : Act → World → Prop} (h : ∀ a w, K a w → K' a w) (hh : opG P ops flag Q i K a w) : opG P ops flag Q i K' a w := by
  unfold opG at *
  split
  · exact h _ _ (by simpa [*] using hh)
  · rename_i o ho
    simp only [ho] at hh
    split
    · rename_i hw; simp only [hw, if_true] at hh; exact Oper.wp_mono (fun a w h' => ⟨h'.1, h _ _ h'.2⟩) hh
    · rename_i hw; simp only [hw] at hh; exact h _ _ hh
theorem anyG_any : ∀ (n : Nat) (listed : Array Bool) (a : Act) (w : World), anyG P ops flag Q n listed a w → wpAny P .any ops Q n listed a w
  | 0, _, _, _, h => h
  | n + 1, listed, a, w, h => ⟨h.1, fun i hi => by
    have := h.2 i hi
    unfold opG at this
    unfold wpOp
    split
    · rename_i ho
      simp only [ho] at this
      exact anyG_any n _ _ _ this
    · rename_i o ho
      simp only [ho] at this
      split
      · rename_i hw
        simp only [hw, if_true] at this
        exact .inl (Oper.wp_mono (fun a w h' => anyG_any n _ _ _ h'.2) this)
      · rename_i hw
        simp only [hw] at this
        exact anyG_any n _ _ _ this⟩
/-- In this frame the operation yields v, in every world of the class, and leaves it alone. -/
def YieldsC (P : Program) (ops : Array Oper) (C : World → Prop) (o : Oper) (v : Value) (a : Act) : Prop :=
  (Region.wanted o (yielded ops a.tmps) = true ∧ ∀ w, C w → (execOp a.eval o).run P w = .ok (.value v) w) ∨
  (Region.wanted o (yielded ops a.tmps) = false ∧ v = undef)
theorem YieldsC.of_same {C : World → Prop} {o : Oper} {v : Value} {a a' : Act} (hy : YieldsC P ops C o v a) (he : execOp a'.eval o = execOp a.eval o)
    (hw : Region.wanted o (yielded ops a'.tmps) = Region.wanted o (yielded ops a.tmps)) : YieldsC P ops C o v a' := by
  unfold YieldsC at *
  rw [he, hw]
  exact hy
theorem YieldsC.opG {C : World → Prop} {i : Nat} {o : Oper} {v : Value} {a : Act} (hi : ops[i]? = some o) (hy : YieldsC P ops C o v a) {K : Act → World → Prop} {w : World} (hC : C w) (h : K (a.put o.dst v) w) : opG P ops flag Q i K a w := by
  unfold Eng.opG
  simp only [hi]
  rcases hy with ⟨hw, hv⟩ | ⟨hw, rfl⟩
  · simp only [hw, if_true, Oper.wp, hv w hC, Oper.upon]
    exact ⟨fun _ => Grows.refl w, h⟩
  · simp only [hw, Bool.false_eq_true, if_false]
    exact h
theorem opG_put {C : World → Prop} {j : Nat} {oi oj : Oper} {v : Value} (hj : ops[j]? = some oj) (hap : oi.apart ops oj = true)
    (hsi : ∀ cs b, oi.op ≠ .select cs b) (hsj : ∀ cs b, oj.op ≠ .select cs b)
    (hQ : ∀ c a w, ¬ Q (.panic c) a w) (hQo : ¬ LetsOut Q) {K : Act → World → Prop} {a : Act} {w : World}
    (hy : YieldsC P ops C oi v a) (h : opG P ops flag Q j K (a.put oi.dst v) w) :
    opG P ops flag Q j (fun a' w' => YieldsC P ops C oi v a' ∧ K (a'.put oi.dst v) w') a w := by
  obtain ⟨h1, h2, h3⟩ := Oper.apart_spec hap
  have keep : ∀ (a : Act), YieldsC P ops C oi v a → ∀ u, YieldsC P ops C oi v (a.put oj.dst u) := fun a hy u =>
    hy.of_same (execOp_put oi hsi a oj.dst u h3) (wanted_put oi a oj.dst u h3)
  have keepD : ∀ d, YieldsC P ops C oi v { a with defers := d :: a.defers } := fun d => hy.of_same rfl rfl
  unfold opG at *
  simp only [hj] at *
  rw [wanted_put oj a oi.dst v h1] at h
  split
  · rename_i hw
    simp only [hw, if_true] at h
    unfold Oper.wp at *
    rw [execOp_put oj hsj a oi.dst v h1] at h
    generalize (execOp a.eval oj).run P w = r at *
    cases r with
    | ok n w' =>
      cases n <;> simp only [Oper.upon] at h ⊢
      case value u => exact ⟨h.1, keep a hy u, by rw [← Act.put_comm a v u h2]; exact h.2⟩
      case skip => exact ⟨h.1, keep a hy _, by rw [← Act.put_comm a v Go.undef h2]; exact h.2⟩
      case defer d =>
        refine ⟨h.1, keep _ (keepD d) _, ?_⟩
        rw [← Act.put_comm _ v Go.undef h2, ← Act.put_defers]
        exact h.2
      case enter f args =>
        refine Calls.mono h fun e w'' he => ?_
        cases e with
        | returned u => exact ⟨he.1, keep a hy u, by rw [← Act.put_comm a v u h2]; exact he.2⟩
        | panicked c => exact (hQ _ _ _ he).elim
        | outgrown => exact he
      case row row args => exact Rows.mono h fun u w'' he => ⟨he.1, keep a hy u, by rw [← Act.put_comm a v u h2]; exact he.2⟩
    | halt x w' =>
      cases x <;> simp only [Oper.upon] at h ⊢
      case panic u => exact (hQ _ _ _ h).elim
  · rename_i hw
    simp only [hw] at h
    exact ⟨keep a hy _, by rw [← Act.put_comm a v Go.undef h2]; exact h⟩
/-- An operation that yields one value and leaves the world alone may be taken first. W: operations that wait for it; V: those of them that are known not to be listed. -/
theorem anyG_first {C : World → Prop} (hCg : ∀ w w', C w → Grows w w' → C w') {i : Nat} {oi : Oper} {v : Value} (hi : ops[i]? = some oi) (hsel : ∀ (j : Nat) (o : Oper) cs b, ops[j]? = some o → o.op ≠ .select cs b)
    (hQ : ∀ c a w, ¬ Q (.panic c) a w) (hQo : ¬ LetsOut Q) {W V : Nat → Prop} (hVW : ∀ k, V k → W k)
    (hW : ∀ (j : Nat) (oj : Oper), ops[j]? = some oj → W j → ∃ e ∈ oj.after, Region.binds .any e = true ∧ (e.on = i ∨ V e.on)) :
    ∀ (fuel : Nat) (listed : Array Bool) (a : Act) (w : World),
      (∀ k, V k → listed.getD k true = false ∨ listed.size ≤ k) → (∀ j oj, ops[j]? = some oj → j ≠ i → listed.getD j true = false → ¬ W j → oi.apart ops oj = true ∧ ((∀ w, C w) ∨ flag j = true)) →
      i ∈ Region.ready .any ops listed → YieldsC P ops C oi v a → C w →
      anyG P ops flag Q fuel (listed.setIfInBounds i true) (a.put oi.dst v) w → anyG P ops flag Q (fuel + 1) listed a w := by
  intro fuel
  induction fuel with
  | zero =>
    intro listed a w _ _ hr hy hC H
    refine ⟨fun h => (by rw [h] at hr; cases hr), fun j hj => ?_⟩
    by_cases hji : j = i
    · subst hji; exact hy.opG hi hC H
    · have := ready_mono hj hji
      rw [H.1] at this
      cases this
  | succ fuel ih =>
    intro listed a w hV hfree hr hy hC H
    refine ⟨fun h => (by rw [h] at hr; cases hr), fun j hj => ?_⟩
    by_cases hji : j = i
    · subst hji; exact hy.opG hi hC H
    · have h1 := H.2 j (ready_mono hj hji)
      obtain ⟨hjun, oj, hoj, hall⟩ := mem_ready.1 hj
      have hnot : ¬ W j := fun hwj => by
        obtain ⟨e, he, hb, heq⟩ := hW j oj hoj hwj
        have h1 := hall e he hb
        have hu : listed.getD e.on true = false ∨ listed.size ≤ e.on := by
          rcases heq with heq | heq
          · rw [heq]; exact .inl (mem_ready.1 hr).1
          · exact hV _ heq
        rcases Nat.lt_or_ge e.on listed.size with h' | h'
        · rcases hu with hu | hu
          · simp [h'] at hu h1; rw [hu] at h1; cases h1
          · omega
        · simp [Array.getElem?_eq_none h'] at h1
      have hV' : ∀ k, V k → (listed.setIfInBounds j true).getD k true = false ∨ (listed.setIfInBounds j true).size ≤ k := fun k hk => by
        have hkj : j ≠ k := fun e => hnot (by rw [e]; exact hVW k hk)
        rcases hV k hk with h' | h'
        · exact .inl (by rw [getD_set_ne true hkj]; exact h')
        · exact .inr (by simpa using h')
      obtain ⟨hap, hcls⟩ := hfree j oj hoj hji hjun hnot
      have h2 := opG_put hoj hap (fun cs b => hsel i oi cs b hi) (fun cs b => hsel j oj cs b hoj) hQ hQo hy h1
      have hfree' : ∀ k ok, ops[k]? = some ok → k ≠ i → (listed.setIfInBounds j true).getD k true = false →
          ¬ W k → oi.apart ops ok = true ∧ ((∀ w, C w) ∨ flag k = true) := fun k ok hk hki hun hno => by
        refine hfree k ok hk hki ?_ hno
        by_cases hjk : j = k
        · subst hjk; exact hjun
        · rw [getD_set_ne true hjk] at hun; exact hun
      have goOn : ∀ a' w', (flag j = true → Grows w w') → YieldsC P ops C oi v a' ∧ anyG P ops flag Q fuel ((listed.setIfInBounds i true).setIfInBounds j true) (a'.put oi.dst v) w' → anyG P ops flag Q (fuel + 1) (listed.setIfInBounds j true) a' w' := by
        intro a' w' hg h3
        refine ih (listed.setIfInBounds j true) a' w' hV' hfree' (ready_mono hr (Ne.symm hji)) h3.1 ?_ ?_
        · rcases hcls with hall | hfl
          · exact hall w'
          · exact hCg w w' hC (hg hfl)
        · rw [Array.setIfInBounds_comm _ _ hji]
          exact h3.2
      unfold opG at h2 ⊢
      simp only [hoj] at h2 ⊢
      split
      · rename_i hw
        simp only [hw, if_true] at h2
        exact Oper.wp_mono (fun a' w' h' => ⟨h'.1, goOn a' w' h'.1 h'.2⟩) h2
      · rename_i hw
        simp only [hw] at h2
        exact goOn _ _ (fun _ => Grows.refl w) h2
end order
end Go.Eng
/- The engine, part B: a region that draws its order. -/
set_option linter.unusedVariables false
namespace Go.Eng

def tmpsL : List Operand → List Nat
  | [] => []
  | .tmp t :: l => t :: tmpsL l
  | _ :: l => tmpsL l
theorem mem_tmpsL {t : Nat} : ∀ {l : List Operand}, Operand.tmp t ∈ l → t ∈ tmpsL l
  | x :: l, h0 => by
    rcases List.mem_cons.1 h0 with h | h
    · subst h; simp [tmpsL]
    · have ih := mem_tmpsL h
      cases x <;> simp only [tmpsL, List.mem_cons, ih, or_true]
def looksL (ops : Array Oper) (o : Oper) : List Nat :=
  (match o.guard with
   | some (g, _) => match (ops[g]?).bind (·.dst) with
     | some d => [d]
     | none => []
   | none => []) ++ tmpsL o.op.operands.toList
theorem mem_looksL {ops : Array Oper} {o : Oper} {t : Nat} (h : t ∈ o.looksAt ops) : t ∈ looksL ops o := by
  unfold Oper.looksAt at h
  unfold looksL
  rcases List.mem_append.1 h with h | h
  · obtain ⟨x, hx, hxt⟩ := List.mem_filterMap.1 h
    refine List.mem_append_right _ (mem_tmpsL (t := t) ?_)
    cases x <;> simp only [reduceCtorEq, Option.some.injEq] at hxt
    subst hxt
    exact hx
  · refine List.mem_append_left _ ?_
    split at h
    · rename_i g _ hg
      simp only [Option.mem_toList] at h
      simp only [hg, h, List.mem_singleton]
    · cases h
def apartL (ops : Array Oper) (x y : Oper) : Bool :=
  (match x.dst with
   | some d => !(looksL ops y).contains d && (match y.dst with | some e => !(Nat.beq e d) | none => true)
   | none => true) &&
  (match y.dst with
   | some d => !(looksL ops x).contains d
   | none => true)
theorem apartL_sound {ops : Array Oper} {x y : Oper} (h : apartL ops x y = true) : x.apart ops y = true := by
  unfold apartL at h
  unfold Oper.apart
  simp only [Bool.and_eq_true] at h ⊢
  refine ⟨?_, ?_⟩
  · cases hx : x.dst with
    | none => rfl
    | some d =>
      have h1 := h.1
      simp only [hx, Bool.and_eq_true, Bool.not_eq_true'] at h1 ⊢
      refine ⟨?_, ?_⟩
      · have := h1.1
        rw [List.contains_eq_mem] at this ⊢
        simp only [decide_eq_false_iff_not] at this ⊢
        exact fun hm => this (mem_looksL hm)
      · cases hy : y.dst with
        | none => simp
        | some e =>
          have := h1.2
          simp only [hy, Bool.not_eq_true'] at this
          simp only [bne_iff_ne, ne_eq, Option.some.injEq]
          intro e'
          subst e'
          simp at this
  · cases hy : y.dst with
    | none => rfl
    | some d =>
      have h2 := h.2
      simp only [hy, Bool.not_eq_true'] at h2 ⊢
      rw [List.contains_eq_mem] at h2 ⊢
      simp only [decide_eq_false_iff_not] at h2 ⊢
      exact fun hm => h2 (mem_looksL hm)

def depsL (o : Oper) : List Nat := (o.after.toList.filter (Region.binds .any)).map (·.on)
/-- Which operations may come up, D having come up. -/
def rdyL : List Oper → Nat → List Nat → List Nat
  | [], _, _ => []
  | o :: l, k, D => match !D.contains k && (depsL o).all D.contains with
    | true => k :: rdyL l (k + 1) D
    | false => rdyL l (k + 1) D
def isStill (P : Program) (F : Frm) (o : Oper) : Bool := (kindOf P F o).1
/-- Operations that let the world but grow, by their kind. -/
def growK (ops : Array Oper) (g : List Nat) (k : Nat) (o : Oper) : Bool := match o.op with
  | .alloc _ | .box _ _ | .buildSlice _ _ _ | .makeSlice _ _ _ | .convert _ _ _ => true
  | .store _ _ _ => false
  | .next _ _ => false
  | .call c => match c.callee with
    | .builtin b => stillB b
    | _ => g.contains k
  | _ => true
/-- May operation i be taken first? l: all operations, from number k on. -/
def firstL (ops : Array Oper) (g : List Nat) (i : Nat) (oi : Oper) (pure : Bool) : List Oper → Nat → List Nat → Bool
  | [], _, _ => true
  | o :: l, k, D => (Nat.beq k i || D.contains k || (depsL o).contains i || (apartL ops oi o && (pure || growK ops g k o))) && firstL ops g i oi pure l (k + 1) D
/-- What waits for operation i, itself or through others. -/
def waitL (i : Nat) : List Oper → Nat → List Nat → List Nat
  | [], _, W => W
  | o :: l, k, W => match (depsL o).any (fun d => Nat.beq d i || W.contains d) with
    | true => waitL i l (k + 1) (k :: W)
    | false => waitL i l (k + 1) W
def firstW (ops : Array Oper) (g : List Nat) (i : Nat) (oi : Oper) (pure : Bool) (W : List Nat) : List Oper → Nat → List Nat → Bool
  | [], _, _ => true
  | o :: l, k, D => (Nat.beq k i || D.contains k || W.contains k || (apartL ops oi o && (pure || growK ops g k o))) && firstW ops g i oi pure W l (k + 1) D
/-- May operation i be taken first? -/
def firstX (ops : Array Oper) (g : List Nat) (i : Nat) (oi : Oper) (pure : Bool) (l : List Oper) (D : List Nat) : Bool :=
  firstL ops g i oi pure l 0 D || ((waitL i l 0 []).all (fun x => !D.contains x) && firstW ops g i oi pure (waitL i l 0 []) l 0 D)
def pickL (P : Program) (F : Frm) (ops : Array Oper) (g : List Nat) (D : List Nat) : List Nat → Option Nat
  | [] => none
  | i :: r => match ops[i]? with
    | some oi => match isStill P F oi && firstX ops g i oi (kindOf P F oi).2 ops.toList D with
      | true => some i
      | false => pickL P F ops g D r
    | none => pickL P F ops g D r
def noSel (ops : Array Oper) : List Oper → Bool
  | [] => true
  | o :: l => match o.op with
    | .select _ _ => false
    | _ => noSel ops l
def allx : List Nat → (Nat → Prop) → Prop
  | [], _ => True
  | [i], f => f i
  | i :: l, f => f i ∧ allx l f
/-- A flagged operation must let the local heap but grow. -/
def growx (b : Bool) (H H' : Hp) (K : Prop) : Prop := match b with
  | true => H <+: H' ∧ K
  | false => K
def stepG (P : Program) (ro : Addr → A → Prop) (nt : Nat) (ops : Array Oper) (b : Bool) (o : Oper) (F : Frm) (H : Hp) (K : Frm → Hp → Prop) : Prop :=
  needx (dstOK o.dst nt) (guardx ops F o (opx P ro F H o fun v H' => growx b H H' (nextx o v F H' K)) (K (put o.dst (.t []) F) H))
def anyx (P : Program) (ro : Addr → A → Prop) (nt : Nat) (ops : Array Oper) (g : List Nat) : Nat → List Nat → Frm → Hp → (Frm → Hp → Prop) → Prop
  | 0, D, F, H, K => match rdyL ops.toList 0 D with
    | [] => K F H
    | _ => False
  | n + 1, D, F, H, K => match rdyL ops.toList 0 D with
    | [] => K F H
    | r => match pickL P F ops g D r with
      | some i => match ops[i]? with
        | some o => stepx P ro nt ops o F H fun F H => anyx P ro nt ops g n (i :: D) F H K
        | none => False
      | none => allx r fun i => match ops[i]? with
        | some o => stepG P ro nt ops (growK ops g i o) o F H fun F H => anyx P ro nt ops g n (i :: D) F H K
        | none => False

section sound
variable {c : Ctx} {o : Oper} {β : Num} {F : Frm} {H : Hp} {a : Act} {w : World} {ops : Array Oper} {g : List Nat}

/-- The list D tells what the array tells. -/
def Lists (ops : Array Oper) (D : List Nat) (listed : Array Bool) : Prop := listed.size = ops.size ∧ ∀ k, listed.getD k false = (decide (k < ops.size) && D.contains k)
theorem Lists.nil (ops : Array Oper) : Lists ops [] (Array.replicate ops.size false) := by
  refine ⟨by simp, fun k => ?_⟩
  rw [Array.getD_eq_getD_getElem?]
  by_cases h : k < ops.size
  · simp [h]
  · simp [h]
theorem Lists.cons {D : List Nat} {listed : Array Bool} (h : Lists ops D listed) (i : Nat) : Lists ops (i :: D) (listed.setIfInBounds i true) := by
  refine ⟨by simp [h.1], fun k => ?_⟩
  by_cases e : i = k
  · subst e
    by_cases hi : i < ops.size
    · have : i < listed.size := by rw [h.1]; exact hi
      simp [Array.getD_eq_getD_getElem?, this, hi]
    · have : ¬ i < listed.size := by rw [h.1]; exact hi
      simp [Array.getD_eq_getD_getElem?, hi, this]
  · rw [getD_set_ne false e, h.2 k]
    simp [Ne.symm e]
theorem Lists.getT {D : List Nat} {listed : Array Bool} (h : Lists ops D listed) {k : Nat} (hk : k < ops.size) : listed.getD k true = D.contains k := by
  have h2 := h.2 k
  have hl : k < listed.size := by rw [h.1]; exact hk
  simp only [Array.getD_eq_getD_getElem?, Array.getElem?_eq_getElem hl, Option.getD_some] at h2 ⊢
  simpa [hk] using h2
theorem mem_rdyL {D : List Nat} : ∀ (l : List Oper) (k i : Nat), i ∈ rdyL l k D ↔ k ≤ i ∧ D.contains i = false ∧ ∃ o, l[i - k]? = some o ∧ ∀ d ∈ depsL o, D.contains d = true
  | [], k, i => by simp [rdyL]
  | o :: l, k, i => by
    have ih := mem_rdyL (D := D) l (k + 1) i
    unfold rdyL
    by_cases hik : i = k
    · subst hik
      have hno : ¬ i ∈ rdyL l (i + 1) D := fun h => by have := (ih.1 h).1; omega
      split
      · rename_i hc
        simp only [Bool.and_eq_true, Bool.not_eq_true', List.all_eq_true] at hc
        simp only [List.mem_cons, true_or, true_iff, Nat.le_refl, true_and, Nat.sub_self, List.getElem?_cons_zero]
        exact ⟨hc.1, o, rfl, hc.2⟩
      · rename_i hc
        simp only [hno, false_iff, Nat.le_refl, true_and, Nat.sub_self, List.getElem?_cons_zero]
        rintro ⟨h1, o', ho, h2⟩
        injection ho with ho
        subst ho
        simp [List.all_eq_true.2 h2] at hc
        have h1' : i ∉ D := by simpa using h1
        exact h1' hc
    · have hs : ∀ (h : k + 1 ≤ i), (o :: l)[i - k]? = l[i - (k + 1)]? := fun h => by
        rw [show i - k = (i - (k + 1)) + 1 by omega]
        simp
      have goal : i ∈ rdyL l (k + 1) D ↔ k ≤ i ∧ D.contains i = false ∧ ∃ o', (o :: l)[i - k]? = some o' ∧ ∀ d ∈ depsL o', D.contains d = true := by
        rw [ih]
        constructor
        · rintro ⟨h1, h2, h3⟩
          rw [hs h1]
          exact ⟨by omega, h2, h3⟩
        · rintro ⟨h1, h2, h3⟩
          have : k + 1 ≤ i := by omega
          rw [hs this] at h3
          exact ⟨this, h2, h3⟩
      split
      · simp only [List.mem_cons, hik, false_or]
        exact goal
      · exact goal
theorem mem_depsL {o : Oper} {d : Nat} : d ∈ depsL o ↔ ∃ e ∈ o.after, Region.binds .any e = true ∧ e.on = d := by
  unfold depsL
  simp only [List.mem_map, List.mem_filter, Array.mem_toList_iff]
  constructor
  · rintro ⟨e, ⟨h1, h2⟩, h3⟩; exact ⟨e, h1, h2, h3⟩
  · rintro ⟨e, h1, h2, h3⟩; exact ⟨e, ⟨h1, h2⟩, h3⟩
/-- All edges lead to operations of the region. -/
def edgesL (n : Nat) : List Oper → Bool
  | [] => true
  | o :: l => (depsL o).all (fun d => Nat.blt d n) && edgesL n l
theorem edgesL_sound {n : Nat} (l : List Oper) (h : edgesL n l = true) (x : Oper) (hx : x ∈ l) (d : Nat) (hd : d ∈ depsL x) : d < n := by
  induction l with
  | nil => cases hx
  | cons o l ih =>
    unfold edgesL at h
    rw [Bool.and_eq_true] at h
    cases hx with
    | head =>
      have := List.all_eq_true.1 h.1 d hd
      exact Nat.blt_eq.mp this
    | tail _ hx => exact ih h.2 hx
theorem ready_iff {D : List Nat} {listed : Array Bool} (h : Lists ops D listed) (he : edgesL ops.size ops.toList = true) (i : Nat) : i ∈ Region.ready .any ops listed ↔ i ∈ rdyL ops.toList 0 D := by
  rw [mem_ready, mem_rdyL]
  simp only [Nat.zero_le, true_and, Nat.sub_zero, Array.getElem?_toList]
  constructor
  · rintro ⟨h0, o, ho, hall⟩
    have hi : i < ops.size := (Array.getElem?_eq_some_iff.1 ho).1
    refine ⟨by rw [← h.getT hi]; exact h0, o, ho, fun d hd => ?_⟩
    obtain ⟨e, he1, he2, he3⟩ := mem_depsL.1 hd
    have := hall e he1 he2
    rw [he3, h.2 d] at this
    simp only [Bool.and_eq_true] at this
    exact this.2
  · rintro ⟨h0, o, ho, hall⟩
    have hi : i < ops.size := (Array.getElem?_eq_some_iff.1 ho).1
    refine ⟨by rw [h.getT hi]; exact h0, o, ho, fun e he1 he2 => ?_⟩
    have hd := mem_depsL.2 ⟨e, he1, he2, rfl⟩
    have hlt := edgesL_sound _ he o (by have := Array.mem_of_getElem? ho; simpa using this) _ hd
    rw [h.2, hall _ hd]
    simp [hlt]
end sound
end Go.Eng
/- The engine, part C: code; loops; functions by their code. -/
set_option linter.unusedVariables false
namespace Go.Eng

section any
variable {c : Ctx} {ops : Array Oper} {g : List Nat}
def flagOf (ops : Array Oper) (g : List Nat) (k : Nat) : Bool := match ops[k]? with
  | some o => growK ops g k o
  | none => true
theorem firstL_sound {i : Nat} {oi : Oper} {p : Bool} : ∀ (l : List Oper) (k : Nat) (D : List Nat), firstL ops g i oi p l k D = true → ∀ (j : Nat) (oj : Oper), l[j]? = some oj → k + j ≠ i → D.contains (k + j) = false → i ∉ depsL oj →
    apartL ops oi oj = true ∧ (p = true ∨ growK ops g (k + j) oj = true)
  | [], _, _, _, _, _, h, _, _, _ => by cases h
  | o :: l, k, D, h, j, oj, hj, hne, hD, hdep => by
    unfold firstL at h
    rw [Bool.and_eq_true] at h
    cases j with
    | zero =>
      simp only [List.getElem?_cons_zero, Option.some.injEq] at hj
      subst hj
      simp only [Nat.add_zero] at hne hD ⊢
      have h1 := h.1
      have hb : Nat.beq k i = false := by
        cases hb : Nat.beq k i with
        | false => rfl
        | true => exact absurd (Nat.eq_of_beq_eq_true hb) hne
      have hc : (depsL o).contains i = false := by
        cases hc : (depsL o).contains i with
        | false => rfl
        | true => exact absurd (by simpa using hc) hdep
      simp only [hb, hD, hc, Bool.false_or, Bool.and_eq_true, Bool.or_eq_true] at h1
      exact h1
    | succ j =>
      simp only [List.getElem?_cons_succ] at hj
      have := firstL_sound l (k + 1) D h.2 j oj hj (by omega) (by rwa [show k + 1 + j = k + (j + 1) by omega]) hdep
      rwa [show k + 1 + j = k + (j + 1) by omega] at this
theorem firstW_sound {i : Nat} {oi : Oper} {p : Bool} {W : List Nat} : ∀ (l : List Oper) (k : Nat) (D : List Nat), firstW ops g i oi p W l k D = true → ∀ (j : Nat) (oj : Oper), l[j]? = some oj → k + j ≠ i → D.contains (k + j) = false → W.contains (k + j) = false →
    apartL ops oi oj = true ∧ (p = true ∨ growK ops g (k + j) oj = true)
  | [], _, _, _, _, _, h, _, _, _ => by cases h
  | o :: l, k, D, h, j, oj, hj, hne, hD, hdep => by
    unfold firstW at h
    rw [Bool.and_eq_true] at h
    cases j with
    | zero =>
      simp only [List.getElem?_cons_zero, Option.some.injEq] at hj
      subst hj
      simp only [Nat.add_zero] at hne hD hdep ⊢
      have h1 := h.1
      have hb : Nat.beq k i = false := by
        cases hb : Nat.beq k i with
        | false => rfl
        | true => exact absurd (Nat.eq_of_beq_eq_true hb) hne
      simp only [hb, hD, hdep, Bool.false_or, Bool.and_eq_true, Bool.or_eq_true] at h1
      exact h1
    | succ j =>
      simp only [List.getElem?_cons_succ] at hj
      have := firstW_sound l (k + 1) D h.2 j oj hj (by omega) (by rwa [show k + 1 + j = k + (j + 1) by omega]) (by rwa [show k + 1 + j = k + (j + 1) by omega])
      rwa [show k + 1 + j = k + (j + 1) by omega] at this
theorem waitL_sound {i : Nat} : ∀ (l : List Oper) (k : Nat) (W : List Nat) {all : List Oper}, (∀ j o, l[j]? = some o → all[k + j]? = some o) → (∀ x ∈ W, ∃ o, all[x]? = some o ∧ ∃ d ∈ depsL o, d = i ∨ d ∈ waitL i l k W) →
    (∀ x ∈ W, x ∈ waitL i l k W) ∧ ∀ x ∈ waitL i l k W, ∃ o, all[x]? = some o ∧ ∃ d ∈ depsL o, d = i ∨ d ∈ waitL i l k W
  | [], k, W, all, _, h => ⟨fun x hx => hx, h⟩
  | o :: l, k, W, all, hl, h => by
    have hl' : ∀ j o', l[j]? = some o' → all[k + 1 + j]? = some o' := fun j o' hj => by
      have := hl (j + 1) o' (by simpa using hj)
      rwa [show k + (j + 1) = k + 1 + j by omega] at this
    unfold waitL at h ⊢
    cases e : (depsL o).any (fun d => Nat.beq d i || W.contains d) with
    | false =>
      simp only [e] at h ⊢
      exact waitL_sound l (k + 1) W hl' h
    | true =>
      simp only [e] at h ⊢
      obtain ⟨d, hd, hdd⟩ := List.any_eq_true.1 e
      have hsub : ∀ (l : List Oper) (k : Nat) (W : List Nat), ∀ x ∈ W, x ∈ waitL i l k W := by
        intro l
        induction l with
        | nil => intro k W x hx; exact hx
        | cons o l ih =>
          intro k W x hx
          unfold waitL
          split
          · exact ih _ _ x (List.mem_cons_of_mem _ hx)
          · exact ih _ _ x hx
      have hin : ∃ o', all[k]? = some o' ∧ ∃ d ∈ depsL o', d = i ∨ d ∈ waitL i l (k + 1) (k :: W) := by
        refine ⟨o, by simpa using hl 0 o rfl, d, hd, ?_⟩
        rcases (Bool.or_eq_true_iff.1 hdd) with h1 | h1
        · exact .inl (Nat.eq_of_beq_eq_true h1)
        · exact .inr (hsub l (k + 1) (k :: W) d (List.mem_cons_of_mem _ (by simpa using h1)))
      have := waitL_sound l (k + 1) (k :: W) hl' (fun x hx => by
        rcases List.mem_cons.1 hx with rfl | hx
        · exact hin
        · exact h x hx)
      exact ⟨fun x hx => this.1 x (List.mem_cons_of_mem _ hx), this.2⟩
/-- What a check for operation i says. -/
theorem firstX_sound {i : Nat} {oi : Oper} {p : Bool} {D : List Nat} (h : firstX ops g i oi p ops.toList D = true) : ∃ W V : Nat → Prop, (∀ k, V k → W k) ∧
    (∀ (j : Nat) (oj : Oper), ops[j]? = some oj → W j → ∃ e ∈ oj.after, Region.binds .any e = true ∧ (e.on = i ∨ V e.on)) ∧ (∀ k, V k → D.contains k = false) ∧
    ∀ (j : Nat) (oj : Oper), ops[j]? = some oj → j ≠ i → D.contains j = false → ¬ W j → apartL ops oi oj = true ∧ (p = true ∨ growK ops g j oj = true) := by
  unfold firstX at h
  rcases (Bool.or_eq_true_iff.1 h) with h | h
  · refine ⟨fun j => ∃ oj, ops[j]? = some oj ∧ i ∈ depsL oj, fun _ => False, fun _ h => h.elim, fun j oj hj ⟨o', ho', hi⟩ => ?_, fun _ h => h.elim, fun j oj hj hne hD hW => ?_⟩
    · rw [hj] at ho'
      injection ho' with ho'
      subst ho'
      obtain ⟨e, he1, he2, he3⟩ := mem_depsL.1 hi
      exact ⟨e, he1, he2, .inl he3⟩
    · have := firstL_sound ops.toList 0 D h j oj (by simpa using hj) (by simpa using hne) (by simpa using hD) (fun hm => hW ⟨oj, hj, hm⟩)
      simpa using this
  · rw [Bool.and_eq_true] at h
    have hw := waitL_sound (i := i) ops.toList 0 [] (all := ops.toList) (fun j o hj => by simpa using hj) (fun x hx => by cases hx)
    refine ⟨fun j => j ∈ waitL i ops.toList 0 [], fun j => j ∈ waitL i ops.toList 0 [], fun _ h => h, fun j oj hj hm => ?_, fun k hk => ?_, fun j oj hj hne hD hW => ?_⟩
    · obtain ⟨o', ho', d, hd, hor⟩ := hw.2 j hm
      rw [show ops.toList[j]? = some oj by simpa using hj] at ho'
      injection ho' with ho'
      subst ho'
      obtain ⟨e, he1, he2, he3⟩ := mem_depsL.1 hd
      exact ⟨e, he1, he2, by rw [he3]; exact hor⟩
    · have := List.all_eq_true.1 h.1 k hk
      simpa using this
    · have := firstW_sound ops.toList 0 D h.2 j oj (by simpa using hj) (by simpa using hne) (by simpa using hD) (by simpa using hW)
      simpa using this
theorem noSel_sound : ∀ (l : List Oper), noSel ops l = true → ∀ o ∈ l, ∀ cs b, o.op ≠ .select cs b
  | [], _, o, h, _, _ => by cases h
  | x :: l, h, o, ho, cs, b => by
    unfold noSel at h
    split at h
    · cases h
    · rename_i hx
      cases ho with
      | head => exact fun e => hx cs b e
      | tail _ ho => exact noSel_sound l h o ho cs b
theorem allx_elim : ∀ {r : List Nat} {f : Nat → Prop}, allx r f → ∀ i ∈ r, f i
  | [i], f, h, j, hj => by
    simp only [List.mem_singleton] at hj
    subst hj
    exact h
  | i :: k :: l, f, h, j, hj => by
    rcases List.mem_cons.1 hj with rfl | hj
    · exact h.1
    · exact allx_elim (r := k :: l) h.2 j hj
theorem pickL_sound {P : Program} {F : Frm} {D : List Nat} : ∀ {r : List Nat} {i : Nat}, pickL P F ops g D r = some i → i ∈ r ∧ ∃ oi, ops[i]? = some oi ∧ isStill P F oi = true ∧ firstX ops g i oi (kindOf P F oi).2 ops.toList D = true
  | [], i, h => by cases h
  | k :: r, i, h => by
    unfold pickL at h
    split at h
    · rename_i oi ho
      split at h
      · rename_i hb
        injection h with h
        subst h
        rw [Bool.and_eq_true] at hb
        exact ⟨by simp, oi, ho, hb.1, hb.2⟩
      · have := pickL_sound h
        exact ⟨by simp [this.1], this.2⟩
    · have := pickL_sound h
      exact ⟨by simp [this.1], this.2⟩

theorem anyx_sound {Q : Exit → Act → World → Prop} (hQ : ∀ c a w, ¬ Q (.panic c) a w) (hQo : ¬ LetsOut Q) (he : edgesL ops.size ops.toList = true) (hsel : noSel ops ops.toList = true) :
    ∀ (n : Nat) {D : List Nat} {F : Frm} {H : Hp} {K : Frm → Hp → Prop}, anyx c.P c.ro c.nt ops g n D F H K → (∀ F H a w, K F H → Sat c F H a w → Q .normal a w) →
      ∀ listed a w, Lists ops D listed → Sat c F H a w → anyG c.P ops (flagOf ops g) Q n listed a w
  | 0, D, F, H, K, h, hq, listed, a, w, hl, hs => by
    unfold anyx at h
    split at h
    · rename_i hr
      refine ⟨?_, hq F H a w h hs⟩
      cases hx : Region.ready .any ops listed with
      | nil => rfl
      | cons x xs =>
        have : x ∈ rdyL ops.toList 0 D := (ready_iff hl he x).1 (by rw [hx]; simp)
        rw [hr] at this
        cases this
    · exact h.elim
  | n + 1, D, F, H, K, h, hq, listed, a, w, hl, hs => by
    have hsel' : ∀ (j : Nat) (o : Oper) cs b, ops[j]? = some o → o.op ≠ .select cs b := fun j o cs b hj =>
      noSel_sound _ hsel o (by have := Array.mem_of_getElem? hj; simpa using this) cs b
    unfold anyx at h
    split at h
    · rename_i hr
      refine ⟨fun _ => hq F H a w h hs, fun i hi => ?_⟩
      have := (ready_iff hl he i).1 hi
      rw [hr] at this
      cases this
    · rename_i hr0
      split at h
      · rename_i i hpick
        obtain ⟨hir, oi, hoi, hst, hfirst⟩ := pickL_sound hpick
        simp only [hoi] at h
        obtain ⟨hd, h⟩ := needx_elim (show needx _ _ from h)
        have hd' := dst_lt hd
        have hready : i ∈ Region.ready .any ops listed := (ready_iff hl he i).2 hir
        obtain ⟨W, V, hVW, hWc, hVD, hfr⟩ := firstX_sound hfirst
        have hVl : ∀ k, V k → listed.getD k true = false ∨ listed.size ≤ k := fun k hk => by
          rcases Nat.lt_or_ge k ops.size with h' | h'
          · exact .inl (by rw [hl.getT h']; exact hVD k hk)
          · exact .inr (by rw [hl.1]; exact h')
        have free : ∀ j oj, ops[j]? = some oj → j ≠ i → listed.getD j true = false → ¬ W j → oi.apart ops oj = true ∧ ((kindOf c.P F oi).2 = true ∨ flagOf ops g j = true) := by
          intro j oj hj hne hun hno
          have hjlt : j < ops.size := (Array.getElem?_eq_some_iff.1 hj).1
          have hD : D.contains j = false := by rw [← hl.getT hjlt]; exact hun
          have := hfr j oj hj hne hD hno
          refine ⟨apartL_sound this.1, ?_⟩
          simp only [flagOf, hj]
          exact this.2
        obtain ⟨β, hw, hf⟩ := hs
        rcases guardx_sound hf h with ⟨hwant, h⟩ | ⟨hwant, h⟩
        · by_cases hp : (kindOf c.P F oi).2 = true
          · obtain ⟨v, hk, hv⟩ := opx_pure h hp
            rw [nextx_eq] at hk
            have hrun := fun w => (hv β a w hf).2
            refine anyG_first (C := fun _ => True) (fun _ _ _ _ => trivial) hoi hsel' hQ hQo hVW hWc n listed a w hVl (fun j oj hj hne hun hno => ?_) hready (.inl ⟨hwant, fun w _ => hrun w⟩) trivial ?_
            · have := free j oj hj hne hun hno
              exact ⟨this.1, .inl fun _ => trivial⟩
            · exact anyx_sound hQ hQo he hsel n hk hq _ _ _ (hl.cons i) ⟨β, hw, hf.put (Mv.refl hw) hd' (hv β a w hf).1⟩
          · obtain ⟨v, hk, hv⟩ := opx_still h hst
            rw [nextx_eq] at hk
            refine anyG_first (C := fun w => WSat c β H w) (fun _ _ h g => h.grow g) hoi hsel' hQ hQo hVW hWc n listed a w hVl (fun j oj hj hne hun hno => ?_) hready (.inl ⟨hwant, fun w hw => (hv β a w hw hf).2⟩) hw ?_
            · have := free j oj hj hne hun hno
              exact ⟨this.1, this.2.elim (fun e => absurd e hp) .inr⟩
            · exact anyx_sound hQ hQo he hsel n hk hq _ _ _ (hl.cons i) ⟨β, hw, hf.put (Mv.refl hw) hd' (hv β a w hw hf).1⟩
        · refine anyG_first (C := fun _ => True) (fun _ _ _ _ => trivial) hoi hsel' hQ hQo hVW hWc n listed a w hVl (fun j oj hj hne hun hno => ?_) hready (.inr ⟨hwant, rfl⟩) trivial ?_
          · have := free j oj hj hne hun hno
            exact ⟨this.1, .inl fun _ => trivial⟩
          · exact anyx_sound hQ hQo he hsel n h hq _ _ _ (hl.cons i) ⟨β, hw, fsat_undef hf hw hd'⟩
      · refine ⟨fun hr => ?_, fun i hi => ?_⟩
        · exfalso
          cases hx : rdyL ops.toList 0 D with
          | nil => exact hr0 hx
          | cons x xs =>
            have : x ∈ Region.ready .any ops listed := (ready_iff hl he x).2 (by rw [hx]; simp)
            rw [hr] at this
            cases this
        · have h := allx_elim h i ((ready_iff hl he i).1 hi)
          obtain ⟨β, hw, hf⟩ := hs
          unfold opG
          split at h
          · rename_i o ho
            simp only [ho]
            obtain ⟨hd, h⟩ := needx_elim (show needx _ _ from h)
            have hd' := dst_lt hd
            have hfl : flagOf ops g i = growK ops g i o := by simp [flagOf, ho]
            rcases guardx_sound hf h with ⟨hwant, h⟩ | ⟨hwant, h⟩
            · rw [if_pos hwant]
              refine opx_ok h β a w hw hf _ _ fun v H' β' w' hk hv mv => ?_
              rw [hfl]
              unfold growx at hk
              split at hk
              · rw [nextx_eq] at hk
                exact ⟨fun _ => mv.grows hw hk.1, anyx_sound hQ hQo he hsel n hk.2 hq _ _ _ (hl.cons i) ⟨β', mv.sat, hf.put mv hd' hv⟩⟩
              · rename_i hb
                rw [nextx_eq] at hk
                exact ⟨fun e => absurd e (by simp [hb]), anyx_sound hQ hQo he hsel n hk hq _ _ _ (hl.cons i) ⟨β', mv.sat, hf.put mv hd' hv⟩⟩
            · rw [if_neg (by simp [hwant])]
              exact anyx_sound hQ hQo he hsel n h hq _ _ _ (hl.cons i) ⟨β, hw, fsat_undef hf hw hd'⟩
          · exact h.elim

/-- One order of a region, and for each operation why it may come then: 0: nothing else is ready; 1: it is still, all others but grow the heap; else: it is pure. -/
def okCode (P : Program) (F : Frm) (o : Oper) : Nat → Bool
  | 0 => true
  | 1 => isStill P F o
  | _ => isStill P F o && (kindOf P F o).2
def seqCons (P : Program) (ro : Addr → A → Prop) (nt : Nat) (ops : Array Oper) (g : List Nat) (x : Nat × Nat) (k : Frm → Hp → (Frm → Hp → Prop) → Prop) (F : Frm) (H : Hp) (K : Frm → Hp → Prop) : Prop :=
  match ops[x.1]? with
    | some o => match x.2 with
      | 0 => stepG P ro nt ops (growK ops g x.1 o) o F H fun F H => k F H K
      | c => needx (okCode P F o c) (stepx P ro nt ops o F H fun F H => k F H K)
    | none => False
def seqx (P : Program) (ro : Addr → A → Prop) (nt : Nat) (ops : Array Oper) (g : List Nat) (l : List (Nat × Nat)) : Frm → Hp → (Frm → Hp → Prop) → Prop :=
  List.rec (motive := fun _ => Frm → Hp → (Frm → Hp → Prop) → Prop) opsNil (fun x _ k => seqCons P ro nt ops g x k) l
def chkT (ops : Array Oper) (g : List Nat) : List (Nat × Nat) → List Nat → Bool
  | [], D => (rdyL ops.toList 0 D).isEmpty
  | (i, c) :: l, D => (match ops[i]? with
    | some o => match c with
      | 0 => rdyL ops.toList 0 D == [i]
      | 1 => (rdyL ops.toList 0 D).contains i && firstX ops g i o false ops.toList D
      | _ => (rdyL ops.toList 0 D).contains i && firstX ops g i o true ops.toList D
    | none => false) && chkT ops g l (i :: D)
@[irreducible] def regOK (P : Program) (ops : Array Oper) (g : List Nat) (tab : List (Nat × Nat)) : Bool :=
  edgesL ops.size ops.toList && noSel ops ops.toList && P.follows .mixedOrders && Nat.ble tab.length ops.size && chkT ops g tab []
theorem seqx_sound {Q : Exit → Act → World → Prop} (hQ : ∀ c a w, ¬ Q (.panic c) a w) (hQo : ¬ LetsOut Q) (he : edgesL ops.size ops.toList = true) (hsel : noSel ops ops.toList = true) :
    ∀ (l : List (Nat × Nat)) (n : Nat) {D : List Nat} {F : Frm} {H : Hp} {K : Frm → Hp → Prop}, l.length ≤ n → chkT ops g l D = true → seqx c.P c.ro c.nt ops g l F H K → (∀ F H a w, K F H → Sat c F H a w → Q .normal a w) →
      ∀ listed a w, Lists ops D listed → Sat c F H a w → anyG c.P ops (flagOf ops g) Q n listed a w
  | [], n, D, F, H, K, hn, hc, h, hq, listed, a, w, hl, hs => by
    have hr : rdyL ops.toList 0 D = [] := by simpa [chkT] using hc
    cases n with
    | zero =>
      refine ⟨?_, hq F H a w h hs⟩
      cases hx : Region.ready .any ops listed with
      | nil => rfl
      | cons x xs =>
        have : x ∈ rdyL ops.toList 0 D := (ready_iff hl he x).1 (by rw [hx]; simp)
        rw [hr] at this
        cases this
    | succ n =>
      refine ⟨fun _ => hq F H a w h hs, fun i hi => ?_⟩
      have := (ready_iff hl he i).1 hi
      rw [hr] at this
      cases this
  | (i, cd) :: l, 0, D, F, H, K, hn, hc, h, hq, listed, a, w, hl, hs => by simp at hn
  | (i, cd) :: l, n + 1, D, F, H, K, hn, hc, h, hq, listed, a, w, hl, hs => by
    have hsel' : ∀ (j : Nat) (o : Oper) cs b, ops[j]? = some o → o.op ≠ .select cs b := fun j o cs b hj =>
      noSel_sound _ hsel o (by have := Array.mem_of_getElem? hj; simpa using this) cs b
    have hn' : l.length ≤ n := by simpa using hn
    replace h : seqCons c.P c.ro c.nt ops g (i, cd) (seqx c.P c.ro c.nt ops g l) F H K := h
    unfold seqCons at h
    simp only at h
    unfold chkT at hc
    rw [Bool.and_eq_true] at hc
    obtain ⟨hc, hcl⟩ := hc
    split at h
    · rename_i oi hoi
      simp only [hoi] at hc
      obtain ⟨β, hw, hf⟩ := hs
      have still : ∀ p, ((rdyL ops.toList 0 D).contains i && firstX ops g i oi p ops.toList D) = true → (p = true → (kindOf c.P F oi).2 = true) → isStill c.P F oi = true → stepx c.P c.ro c.nt ops oi F H (fun F H => seqx c.P c.ro c.nt ops g l F H K) → anyG c.P ops (flagOf ops g) Q (n + 1) listed a w := by
        intro p hp hpp hst h
        rw [Bool.and_eq_true] at hp
        obtain ⟨hir, hfirst⟩ := hp
        obtain ⟨W, V, hVW, hWc, hVD, hfr⟩ := firstX_sound hfirst
        have hVl : ∀ k, V k → listed.getD k true = false ∨ listed.size ≤ k := fun k hk => by
          rcases Nat.lt_or_ge k ops.size with h' | h'
          · exact .inl (by rw [hl.getT h']; exact hVD k hk)
          · exact .inr (by rw [hl.1]; exact h')
        have free : ∀ j oj, ops[j]? = some oj → j ≠ i → listed.getD j true = false → ¬ W j → oi.apart ops oj = true ∧ (p = true ∨ flagOf ops g j = true) := by
          intro j oj hj hne hun hno
          have hjlt : j < ops.size := (Array.getElem?_eq_some_iff.1 hj).1
          have hD : D.contains j = false := by rw [← hl.getT hjlt]; exact hun
          have := hfr j oj hj hne hD hno
          refine ⟨apartL_sound this.1, ?_⟩
          simp only [flagOf, hj]
          exact this.2
        have hready : i ∈ Region.ready .any ops listed := (ready_iff hl he i).2 (by simpa using hir)
        obtain ⟨hd, h⟩ := needx_elim (show needx _ _ from h)
        have hd' := dst_lt hd
        rcases guardx_sound hf h with ⟨hwant, h⟩ | ⟨hwant, h⟩
        · by_cases hpu : (kindOf c.P F oi).2 = true
          · obtain ⟨v, hk, hv⟩ := opx_pure h hpu
            rw [nextx_eq] at hk
            have hrun := fun w => (hv β a w hf).2
            refine anyG_first (C := fun _ => True) (fun _ _ _ _ => trivial) hoi hsel' hQ hQo hVW hWc n listed a w hVl (fun j oj hj hne hun hno => ?_) hready (.inl ⟨hwant, fun w _ => hrun w⟩) trivial ?_
            · have := free j oj hj hne hun hno
              exact ⟨this.1, .inl fun _ => trivial⟩
            · exact seqx_sound hQ hQo he hsel l n hn' hcl hk hq _ _ _ (hl.cons i) ⟨β, hw, hf.put (Mv.refl hw) hd' (hv β a w hf).1⟩
          · obtain ⟨v, hk, hv⟩ := opx_still h hst
            rw [nextx_eq] at hk
            refine anyG_first (C := fun w => WSat c β H w) (fun _ _ h g => h.grow g) hoi hsel' hQ hQo hVW hWc n listed a w hVl (fun j oj hj hne hun hno => ?_) hready (.inl ⟨hwant, fun w hw => (hv β a w hw hf).2⟩) hw ?_
            · have := free j oj hj hne hun hno
              exact ⟨this.1, this.2.elim (fun e => absurd (hpp e) hpu) .inr⟩
            · exact seqx_sound hQ hQo he hsel l n hn' hcl hk hq _ _ _ (hl.cons i) ⟨β, hw, hf.put (Mv.refl hw) hd' (hv β a w hw hf).1⟩
        · refine anyG_first (C := fun _ => True) (fun _ _ _ _ => trivial) hoi hsel' hQ hQo hVW hWc n listed a w hVl (fun j oj hj hne hun hno => ?_) hready (.inr ⟨hwant, rfl⟩) trivial ?_
          · have := free j oj hj hne hun hno
            exact ⟨this.1, .inl fun _ => trivial⟩
          · exact seqx_sound hQ hQo he hsel l n hn' hcl h hq _ _ _ (hl.cons i) ⟨β, hw, fsat_undef hf hw hd'⟩
      split at h
      · have hr : rdyL ops.toList 0 D = [i] := by simpa using hc
        refine ⟨fun hr' => ?_, fun j hj => ?_⟩
        · exfalso
          have : i ∈ Region.ready .any ops listed := (ready_iff hl he i).2 (by rw [hr]; simp)
          rw [hr'] at this
          cases this
        · have hji : j = i := by
            have := (ready_iff hl he j).1 hj
            rw [hr] at this
            simpa using this
          subst hji
          unfold opG
          simp only [hoi]
          obtain ⟨hd, h⟩ := needx_elim (show needx _ _ from h)
          have hd' := dst_lt hd
          have hfl : flagOf ops g j = growK ops g j oi := by simp [flagOf, hoi]
          rcases guardx_sound hf h with ⟨hwant, h⟩ | ⟨hwant, h⟩
          · rw [if_pos hwant]
            refine opx_ok h β a w hw hf _ _ fun v H' β' w' hk hv mv => ?_
            rw [hfl]
            unfold growx at hk
            split at hk
            · rw [nextx_eq] at hk
              exact ⟨fun _ => mv.grows hw hk.1, seqx_sound hQ hQo he hsel l n hn' hcl hk.2 hq _ _ _ (hl.cons j) ⟨β', mv.sat, hf.put mv hd' hv⟩⟩
            · rename_i hb
              rw [nextx_eq] at hk
              exact ⟨fun e => absurd e (by simp [hb]), seqx_sound hQ hQo he hsel l n hn' hcl hk hq _ _ _ (hl.cons j) ⟨β', mv.sat, hf.put mv hd' hv⟩⟩
          · rw [if_neg (by simp [hwant])]
            exact seqx_sound hQ hQo he hsel l n hn' hcl h hq _ _ _ (hl.cons j) ⟨β, hw, fsat_undef hf hw hd'⟩
      · rename_i hne
        obtain ⟨hok, h2⟩ := needx_elim h
        clear h
        match cd, hne, hc, hok with
        | 0, hne, _, _ => exact absurd rfl hne
        | 1, _, hc, hok => exact still false hc (fun e => absurd e (by simp)) hok h2
        | k + 2, _, hc, hok =>
          have hok' : (isStill c.P F oi && (kindOf c.P F oi).2) = true := hok
          rw [Bool.and_eq_true] at hok'
          exact still true hc (fun _ => hok'.2) hok'.1 h2
    · exact h.elim
end any
end Go.Eng
/- The engine, part D: code, loops, functions. -/
set_option linter.unusedVariables false
namespace Go.Eng

/-! ### Other numbers for the blocks. -/
def A.ren (δ : Nat → Nat) : A → A
  | .ptr i o => .ptr (δ i) o
  | .slc i o l k => .slc (δ i) o l k
  | .clo f caps => .clo f (caps.map fun q => (δ q.1, q.2))
  | .ifc t x => .ifc t (x.ren δ)
  | x => x
def E.ren (δ : Nat → Nat) : E → E
  | .a x => .a (x.ren δ)
  | .g cs => .g (cs.map (A.ren δ))
def V.ren (δ : Nat → Nat) : V → V
  | .a x => .a (x.ren δ)
  | .g cs => .g (cs.map (A.ren δ))
  | .t xs => .t (xs.map (E.ren δ))
def Ob.ren (δ : Nat → Nat) : Ob → Ob
  | .cells cs ty mk => .cells (cs.map (A.ren δ)) ty mk
  | .iter s p => .iter s p
theorem A.ren_val (β : Num) (δ : Nat → Nat) (x : A) : (x.ren δ).val β = x.val (fun i => β (δ i)) := by
  induction x with
  | ifc t x ih => simp only [A.ren, A.val]; rw [ih]
  | clo f caps => simp [A.ren, A.val, Function.comp_def, adr]
  | _ => rfl
theorem map_ren_val (β : Num) (δ : Nat → Nat) (cs : List A) : (cs.map (A.ren δ)).map (A.val β) = cs.map (A.val fun i => β (δ i)) := by
  rw [List.map_map]
  exact List.map_congr_left fun x _ => A.ren_val β δ x
theorem E.ren_val (β : Num) (δ : Nat → Nat) (x : E) : (x.ren δ).val β = x.val (fun i => β (δ i)) := by
  cases x with
  | a x => exact A.ren_val β δ x
  | g cs => simp only [E.ren, E.val, map_ren_val]
theorem V.ren_val (β : Num) (δ : Nat → Nat) (x : V) : (x.ren δ).val β = x.val (fun i => β (δ i)) := by
  cases x with
  | a x => exact A.ren_val β δ x
  | g cs => simp only [V.ren, V.val, map_ren_val]
  | t xs =>
    simp only [V.ren, V.val, List.map_map]
    congr 2
    exact List.map_congr_left fun x _ => E.ren_val β δ x
theorem Ob.ren_obj (β : Num) (δ : Nat → Nat) (x : Ob) : (x.ren δ).obj β = x.obj (fun i => β (δ i)) := by
  cases x with
  | cells cs ty mk => simp only [Ob.ren, Ob.obj, map_ren_val, List.length_map]
  | iter s p => rfl

theorem A.ren_gh {β : Num} {δ : Nat → Nat} {x : A} (h : (x.ren δ).gh β) : x.gh (fun i => β (δ i)) := by
  induction x with
  | ifc t x ih => exact ih h
  | clo f caps => intro q hq; exact h (δ q.1, q.2) (List.mem_map.2 ⟨q, hq, rfl⟩)
  | _ => exact h
theorem E.ren_gh {β : Num} {δ : Nat → Nat} {x : E} (h : (x.ren δ).gh β) : x.gh (fun i => β (δ i)) := by
  cases x with
  | a x => exact A.ren_gh h
  | g cs => exact fun y hy => A.ren_gh (h _ (List.mem_map.2 ⟨y, hy, rfl⟩))
theorem V.ren_gh {β : Num} {δ : Nat → Nat} {x : V} (h : (x.ren δ).gh β) : x.gh (fun i => β (δ i)) := by
  cases x with
  | a x => exact A.ren_gh h
  | g cs => exact fun y hy => A.ren_gh (h _ (List.mem_map.2 ⟨y, hy, rfl⟩))
  | t xs => exact fun y hy => E.ren_gh (h _ (List.mem_map.2 ⟨y, hy, rfl⟩))
theorem Ob.ren_gh {β : Num} {δ : Nat → Nat} {x : Ob} (h : (x.ren δ).gh β) : x.gh (fun i => β (δ i)) := by
  cases x with
  | cells cs ty mk => exact fun y hy => A.ren_gh (h _ (List.mem_map.2 ⟨y, hy, rfl⟩))
  | iter s p => trivial
theorem Ob.ren_bare {δ : Nat → Nat} {x : Ob} (h : (x.ren δ).bare) : x.bare := by
  cases x with
  | cells cs ty mk => exact List.map_eq_nil_iff.1 h
  | iter s p => exact h
theorem A.gh_ren {β : Num} {δ : Nat → Nat} {x : A} (h : x.gh (fun i => β (δ i))) : (x.ren δ).gh β := by
  induction x with
  | ifc t x ih => exact ih h
  | clo f caps => intro q hq; obtain ⟨r, hr, rfl⟩ := List.mem_map.1 hq; exact h r hr
  | _ => exact h
theorem E.gh_ren {β : Num} {δ : Nat → Nat} {x : E} (h : x.gh (fun i => β (δ i))) : (x.ren δ).gh β := by
  cases x with
  | a x => exact A.gh_ren h
  | g cs => intro y hy; obtain ⟨r, hr, rfl⟩ := List.mem_map.1 hy; exact A.gh_ren (h r hr)
theorem V.gh_ren {β : Num} {δ : Nat → Nat} {x : V} (h : x.gh (fun i => β (δ i))) : (x.ren δ).gh β := by
  cases x with
  | a x => exact A.gh_ren h
  | g cs => intro y hy; obtain ⟨r, hr, rfl⟩ := List.mem_map.1 hy; exact A.gh_ren (h r hr)
  | t xs => intro y hy; obtain ⟨r, hr, rfl⟩ := List.mem_map.1 hy; exact E.gh_ren (h r hr)
theorem Ob.gh_ren {β : Num} {δ : Nat → Nat} {x : Ob} (h : x.gh (fun i => β (δ i))) : (x.ren δ).gh β := by
  cases x with
  | cells cs ty mk => intro y hy; obtain ⟨r, hr, rfl⟩ := List.mem_map.1 hy; exact A.gh_ren (h r hr)
  | iter s p => trivial
/-! ### Nil slices as empty rows: blocks from number k on lie nowhere. -/
def A.ung (k : Nat) : A → A
  | .slc i o l c => match Nat.blt i k with
    | true => .slc i o l c
    | false => match l, c with
      | 0, 0 => .nils
      | l, c => .slc i o l c
  | .ifc t x => .ifc t (x.ung k)
  | x => x
def E.ung (k : Nat) : E → E
  | .a x => .a (x.ung k)
  | .g cs => .g (cs.map (A.ung k))
def V.ung (k : Nat) : V → V
  | .a x => .a (x.ung k)
  | .g cs => .g (cs.map (A.ung k))
  | .t xs => .t (xs.map (E.ung k))
def Ob.ung (k : Nat) : Ob → Ob
  | .cells cs ty mk => .cells (cs.map (A.ung k)) ty mk
  | .iter s p => .iter s p
def upto (β : Num) (k : Nat) : Num := fun i => if i < k then β i else none
theorem upto_lt {β : Num} {k i : Nat} (h : i < k) : upto β k i = β i := if_pos h
theorem upto_ge {β : Num} {k i : Nat} (h : k ≤ i) : upto β k i = none := if_neg (Nat.not_lt.2 h)
theorem A.ung_sound {β : Num} {k : Nat} : ∀ {x : A}, (x.ung k).fit β k → x.gh (upto β k) ∧ (x.ung k).val β = x.val (upto β k) := by
  intro x
  induction x with
  | ptr i o => intro h; exact ⟨by simp only [A.gh]; rw [upto_lt h.1]; exact h.2, by simp only [A.ung, A.val, adr]; rw [upto_lt h.1]⟩
  | slc i o l c =>
    intro h
    unfold A.ung at h ⊢
    cases e : Nat.blt i k with
    | true =>
      have hi : i < k := Nat.le_of_ble_eq_true e
      simp only [e] at h
      exact ⟨by simp only [A.gh]; rw [upto_lt hi]; exact h.2, by simp only [A.val, adr]; rw [upto_lt hi]⟩
    | false =>
      have hi : k ≤ i := Nat.not_lt.1 fun h' => by have := Nat.ble_eq_true_of_le h'; rw [show Nat.ble (i + 1) k = Nat.blt i k from rfl, e] at this; cases this
      simp only [e] at h ⊢
      split at h
      · exact ⟨fun _ => ⟨rfl, rfl⟩, by simp [A.val, adr_none (upto_ge hi)]⟩
      · exact absurd h.1 (Nat.not_lt.2 hi)
  | clo f caps =>
    intro h
    refine ⟨fun q hq => by rw [upto_lt (h.1 q hq)]; exact h.2 q hq, ?_⟩
    simp only [A.ung, A.val]
    congr 2
    exact List.map_congr_left fun q hq => by unfold adr; rw [upto_lt (h.1 q hq)]
  | ifc t x ih => intro h; obtain ⟨h1, h2⟩ := ih h; exact ⟨h1, by simp only [A.ung, A.val]; rw [h2]⟩
  | _ => intro _; exact ⟨trivial, rfl⟩
theorem ungs_sound {β : Num} {k : Nat} {cs : List A} (h : ∀ x ∈ cs.map (A.ung k), x.fit β k) : (∀ x ∈ cs, x.gh (upto β k)) ∧ (cs.map (A.ung k)).map (A.val β) = cs.map (A.val (upto β k)) := by
  refine ⟨fun x hx => (A.ung_sound (h _ (List.mem_map.2 ⟨x, hx, rfl⟩))).1, ?_⟩
  rw [List.map_map]
  exact List.map_congr_left fun x hx => (A.ung_sound (h _ (List.mem_map.2 ⟨x, hx, rfl⟩))).2
theorem E.ung_sound {β : Num} {k : Nat} {x : E} (h : (x.ung k).fit β k) : x.gh (upto β k) ∧ (x.ung k).val β = x.val (upto β k) := by
  cases x with
  | a x => exact A.ung_sound h
  | g cs =>
    obtain ⟨h1, h2⟩ := ungs_sound (β := β) (k := k) (cs := cs) (fun x hx => ⟨h.1 x hx, h.2 x hx⟩)
    exact ⟨h1, by simp only [E.ung, E.val]; rw [h2]⟩
theorem V.ung_sound {β : Num} {k : Nat} {x : V} (h : (x.ung k).fit β k) : x.gh (upto β k) ∧ (x.ung k).val β = x.val (upto β k) := by
  cases x with
  | a x => exact A.ung_sound h
  | g cs =>
    obtain ⟨h1, h2⟩ := ungs_sound (β := β) (k := k) (cs := cs) (fun x hx => ⟨h.1 x hx, h.2 x hx⟩)
    exact ⟨h1, by simp only [V.ung, V.val]; rw [h2]⟩
  | t xs =>
    have hh : ∀ x ∈ xs, (x.ung k).fit β k := fun x hx => ⟨h.1 _ (List.mem_map.2 ⟨x, hx, rfl⟩), h.2 _ (List.mem_map.2 ⟨x, hx, rfl⟩)⟩
    refine ⟨fun x hx => (E.ung_sound (hh x hx)).1, ?_⟩
    simp only [V.ung, V.val, List.map_map]
    congr 2
    exact List.map_congr_left fun x hx => (E.ung_sound (hh x hx)).2
theorem Ob.ung_sound {β : Num} {k : Nat} {x : Ob} (h : (x.ung k).fit β k) : x.gh (upto β k) ∧ (x.ung k).obj β = x.obj (upto β k) := by
  cases x with
  | cells cs ty mk =>
    obtain ⟨h1, h2⟩ := ungs_sound (β := β) (k := k) (cs := cs) (fun x hx => ⟨h.1 x hx, h.2 x hx⟩)
    exact ⟨h1, by simp only [Ob.ung, Ob.obj, List.length_map]; rw [h2]⟩
  | iter s p => exact ⟨trivial, rfl⟩
theorem Ob.bare_ung {k : Nat} {x : Ob} (h : (x.ung k).bare) : x.bare := by
  cases x with
  | cells cs ty mk => exact List.map_eq_nil_iff.1 h
  | iter s p => exact h
theorem Ob.bare_gh {β : Num} {x : Ob} (h : x.bare) : x.gh β := by
  cases x with
  | cells cs ty mk => intro y hy; rw [show cs = [] from h] at hy; cases hy
  | iter s p => exact h.elim
theorem Ob.bare_ok {n : Nat} {x : Ob} (h : x.bare) : x.ok n := by
  cases x with
  | cells cs ty mk => intro y hy; rw [show cs = [] from h] at hy; cases hy
  | iter s p => exact h.elim
/-- More blocks, all of them empty and nowhere, and nil slices that lie in them. -/
structure Gho (F : Frm) (H : Hp) (F₁ : Frm) (H₁ : Hp) : Prop where
  len : H.length ≤ H₁.length
  old : ∀ (i : Nat) (o : Ob), i < H.length → H₁[i]? = some o → H[i]? = some (o.ung H.length)
  new : ∀ (i : Nat) (o : Ob), H.length ≤ i → H₁[i]? = some o → o.bare
  slot : ∀ i v, look F₁ i = some v → look F i = some (v.ung H.length)
  fok : ∀ i v, look F₁ i = some v → v.ok H₁.length
  hok : ∀ (i : Nat) (o : Ob), H₁[i]? = some o → o.ok H₁.length
theorem Gho.wsat {c : Ctx} {β : Num} {F F₁ : Frm} {H H₁ : Hp} {w : World} (g : Gho F H F₁ H₁) (hw : WSat c β H w) : WSat c (upto β H.length) H₁ w := by
  refine ⟨?_, ?_, ?_, ?_, ?_, Nat.le_trans hw.n0 g.len, hw.fr, ?_, hw.ro⟩
  · intro i j b hi hj e e'
    rcases Nat.lt_or_ge i H.length with h1 | h1
    · rcases Nat.lt_or_ge j H.length with h2 | h2
      · rw [upto_lt h1] at e; rw [upto_lt h2] at e'; exact hw.inj i j b h1 h2 e e'
      · rw [upto_ge h2] at e'; cases e'
    · rw [upto_ge h1] at e; cases e
  · intro i b o ho e
    rcases Nat.lt_or_ge i H.length with h1 | h1
    · rw [upto_lt h1] at e
      have ho' := g.old i o h1 ho
      rw [hw.blk i b _ ho' e, (Ob.ung_sound (hw.ok i _ ho')).2]
    · rw [upto_ge h1] at e; cases e
  · intro i o ho e
    rcases Nat.lt_or_ge i H.length with h1 | h1
    · rw [upto_lt h1] at e
      exact Ob.bare_ung (hw.bare i _ (g.old i o h1 ho) e)
    · exact g.new i o h1 ho
  · intro i o ho
    refine ⟨g.hok i o ho, ?_⟩
    rcases Nat.lt_or_ge i H.length with h1 | h1
    · exact (Ob.ung_sound (hw.ok i _ (g.old i o h1 ho))).1
    · exact Ob.bare_gh (g.new i o h1 ho)
  · intro i hi
    rw [upto_lt (Nat.lt_of_lt_of_le hi hw.n0)]
    exact hw.base i hi
  · intro i b hi hl e
    rcases Nat.lt_or_ge i H.length with h1 | h1
    · rw [upto_lt h1] at e; exact hw.new i b hi h1 e
    · rw [upto_ge h1] at e; cases e
/-- The slots of the list are as they are in the other. -/
def Sub : Frm → Frm → Prop
  | [], _ => True
  | (i, v) :: l, F => look F i = some v ∧ Sub l F
theorem Sub.look : ∀ {F₀ F : Frm}, Sub F₀ F → ∀ i v, look F₀ i = some v → look F i = some v
  | [], _, _, _, _, h => by cases h
  | (j, u) :: l, F, hs, i, v, h => by
    unfold Eng.look at h
    split at h
    · rename_i he
      have : j = i := by simpa using he
      subst this
      injection h with h
      subst h
      exact hs.1
    · exact Sub.look hs.2 i v h
/-- Fewer slots, fewer blocks, other numbers. -/
structure Weak (n0 : Nat) (δ : Nat → Nat) (F : Frm) (H : Hp) (F₀ : Frm) (H₀ : Hp) : Prop where
  slot : ∀ i v, look F₀ i = some v → look F i = some (v.ren δ)
  blk : ∀ (i : Nat) (o : Ob), H₀[i]? = some o → H[δ i]? = some (o.ren δ)
  inj : ∀ i j, i < H₀.length → j < H₀.length → δ i = δ j → i = j
  base : ∀ i, i < n0 → δ i = i
  n0 : n0 ≤ H₀.length
  fok : ∀ i v, look F₀ i = some v → v.ok H₀.length
  hok : ∀ (i : Nat) (o : Ob), H₀[i]? = some o → o.ok H₀.length
inductive IntoI (n0 : Nat) (J : Frm → Hp → Prop) : Frm → Hp → Prop
  | sub {F F₀ : Frm} {H : Hp} (h : Sub F₀ F) (hj : J F₀ H) : IntoI n0 J F H
  | weak {F F₀ : Frm} {H H₀ : Hp} {δ : Nat → Nat} (h : Weak n0 δ F H F₀ H₀) (hj : J F₀ H₀) : IntoI n0 J F H
  | gho {F F₁ : Frm} {H H₁ : Hp} (h : Gho F H F₁ H₁) (hj : IntoI n0 J F₁ H₁) : IntoI n0 J F H
def Into (n0 : Nat) (F : Frm) (H : Hp) (J : Frm → Hp → Prop) : Prop := IntoI n0 J F H
theorem Into.sat {c : Ctx} {F : Frm} {H : Hp} {J : Frm → Hp → Prop} {a : Act} {w : World} (h : Into c.n0 F H J) (hs : Sat c F H a w) : ∃ F₀ H₀, J F₀ H₀ ∧ Sat c F₀ H₀ a w := by
  replace h : IntoI c.n0 J F H := h
  induction h with
  | sub hsub hj =>
    obtain ⟨β, hw, hf⟩ := hs
    exact ⟨_, _, hj, β, hw, ⟨fun i v hv => hf.slot i v (hsub.look i v hv), fun i v hv => hf.ok i v (hsub.look i v hv), hf.size, hf.defers⟩⟩
  | @weak F F₀ H H₀ δ hk hj =>
    obtain ⟨β, hw, hf⟩ := hs
    refine ⟨F₀, H₀, hj, fun i => β (δ i), ⟨?_, ?_, ?_, ?_, ?_, hk.n0, hw.fr, ?_, hw.ro⟩, ⟨?_, ?_, hf.size, hf.defers⟩⟩
    · intro i j b hi hj' e e'
      have hlt : ∀ k, k < H₀.length → δ k < H.length := fun k hk' => hw.lenOf (hk.blk k H₀[k] (by simp [hk']))
      exact hk.inj i j hi hj' (hw.inj _ _ b (hlt i hi) (hlt j hj') e e')
    · intro i b o ho e
      rw [← Ob.ren_obj]
      exact hw.blk _ b _ (hk.blk i o ho) e
    · intro i o ho e
      exact Ob.ren_bare (hw.bare _ _ (hk.blk i o ho) e)
    · intro i o ho
      exact ⟨hk.hok i o ho, Ob.ren_gh (hw.ok _ _ (hk.blk i o ho)).2⟩
    · intro i hi
      show β (δ i) = _
      rw [hk.base i hi]
      exact hw.base i hi
    · intro i b hi hl e
      have hlt := hw.lenOf (hk.blk i H₀[i] (by simp [hl]))
      refine hw.new (δ i) b ?_ hlt e
      rcases Nat.lt_or_ge (δ i) c.n0 with h' | h'
      · have e := hk.base (δ i) h'
        have := hk.inj (δ i) i (Nat.lt_of_lt_of_le h' hk.n0) hl e
        omega
      · exact h'
    · intro i v hv
      have := hf.slot i _ (hk.slot i v hv)
      rw [V.ren_val] at this
      exact this
    · intro i v hv
      exact ⟨hk.fok i v hv, V.ren_gh (hf.ok i _ (hk.slot i v hv)).2⟩
  | gho g hj ih =>
    obtain ⟨β, hw, hf⟩ := hs
    refine ih ⟨upto β _, g.wsat hw, ⟨?_, ?_, hf.size, hf.defers⟩⟩
    · intro i v hv
      have h1 := g.slot i v hv
      rw [hf.slot i _ h1, (V.ung_sound (hf.ok i _ h1)).2]
    · intro i v hv
      exact ⟨g.fok i v hv, (V.ung_sound (hf.ok i _ (g.slot i v hv))).1⟩

/-- A loop by an invariant, with a number that every round lowers. -/
def invx (n0 : Nat) (body : Frm → Hp → (Exit → Frm → Hp → Prop) → Prop) (Q : Exit → Frm → Hp → Prop) (F : Frm) (H : Hp) : Prop :=
  ∃ (I : Nat → Frm → Hp → Prop) (n : Nat), Into n0 F H (I n) ∧ ∀ n F H, I n F H → body F H (fun e F' H' => match e with
    | .normal => ∃ m, m < n ∧ Into n0 F' H' (I m)
    | e => Q e F' H')
/-- Some rounds, one by one. -/
def iterx (n0 : Nat) (body : Frm → Hp → (Exit → Frm → Hp → Prop) → Prop) (Q : Exit → Frm → Hp → Prop) : Nat → Frm → Hp → Prop
  | 0, F, H => invx n0 body Q F H
  | k + 1, F, H => body F H (fun e F' H' => match e with
    | .normal => iterx n0 body Q k F' H'
    | e => Q e F' H')
structure loopx (n0 : Nat) (body : Frm → Hp → (Exit → Frm → Hp → Prop) → Prop) (F : Frm) (H : Hp) (Q : Exit → Frm → Hp → Prop) : Prop where
  run : ∃ k, iterx n0 body Q k F H

/-- A check that is made once, outside of the walk. -/
structure regx (b : Bool) (K : Prop) : Prop where
  sure : b = true
  rest : K
theorem y'r {b : Bool} {K : Prop} (h : b = true) (k : K) : regx b K := ⟨h, k⟩
theorem regx_elim {b : Bool} {K : Prop} (h : regx b K) : b = true ∧ K := ⟨h.sure, h.rest⟩
/-- Hints for regions that draw their order: calls that but grow the heap; one order, with its reasons. -/
abbrev Hints := Nat → List Nat × List (Nat × Nat)
abbrev Wx := Frm → Hp → (Exit → Frm → Hp → Prop) → Prop
def wSkip : Wx := fun F H Q => Q .normal F H
/-- A place at which slots and blocks may be dropped, and ways may be joined. -/
structure cutx (n0 : Nat) (F : Frm) (H : Hp) (J : Frm → Hp → Prop) : Prop where
  run : Into n0 F H J
/-- A region that does not draw is a cut if its hint names any number. -/
def wRegion (P : Program) (ro : Addr → A → Prop) (nt n0 : Nat) (g : Hints) (id : Nat) (ops : Array Oper) (draw : Bool) : Wx := fun F H Q => match draw with
    | false => match (g id).1 with
      | [] => opsx P ro nt ops ops.toList F H (Q .normal)
      | _ :: _ => cutx n0 F H fun F H => opsx P ro nt ops ops.toList F H (Q .normal)
    | true => match (g id).2 with
      | [] => needx (edgesL ops.size ops.toList && noSel ops ops.toList && P.follows .mixedOrders) (anyx P ro nt ops (g id).1 ops.size [] F H (Q .normal))
      | x :: l => regx (regOK P ops (g id).1 (x :: l)) (seqx P ro nt ops (g id).1 (x :: l) F H (Q .normal))
def wSeq (a b : Wx) : Wx := fun F H Q => a F H (fun e F H => match e with
    | .normal => b F H Q
    | e => Q e F H)
def wCond (c : Operand) (a b : Wx) : Wx := fun F H Q => match rho F c with
    | some (.a (.bool t)) => condx t (a F H Q) (b F H Q)
    | _ => False
def wBlock (id : Nat) (a : Wx) : Wx := fun F H Q => a F H (fun e F H => match e with
    | .exit i => match Nat.beq i id with
      | true => Q .normal F H
      | false => Q (.exit i) F H
    | e => Q e F H)
def wLoop (n0 : Nat) (a : Wx) : Wx := fun F H Q => loopx n0 a F H Q
def wExit (id : Nat) : Wx := fun F H Q => Q (.exit id) F H
def wRet : Wx := fun F H Q => Q .ret F H
def wNone : Wx := fun _ _ _ => False
/-- By the recursor itself: what is left is the very term that the kernel meets. -/
def wpx (P : Program) (ro : Addr → A → Prop) (nt n0 : Nat) (g : Hints) (c : Code) : Wx :=
  Code.rec (motive := fun _ => Wx) wSkip (fun id ops draw => wRegion P ro nt n0 g id ops draw) (fun _ _ a b => wSeq a b) (fun c _ _ a b => wCond c a b) (fun id _ a => wBlock id a) (fun _ a => wLoop n0 a)
    (fun _ _ _ _ _ _ => wNone) wExit (fun _ _ => wNone) (fun _ => wNone) (fun _ => wNone) wRet (fun _ => wNone) c

section code
variable {c : Ctx}
def Post (c : Ctx) (Q : Exit → Frm → Hp → Prop) (e : Exit) (a : Act) (w : World) : Prop :=
  (∀ ch, e ≠ .panic ch) ∧ e ≠ .outgrown ∧ ∃ F H, Q e F H ∧ Sat c F H a w
theorem Post.not_panic {Q : Exit → Frm → Hp → Prop} (ch : List PanicEntry) (a : Act) (w : World) : ¬ Post c Q (.panic ch) a w := fun h => h.1 ch rfl
theorem Post.not_out {Q : Exit → Frm → Hp → Prop} : ¬ LetsOut (Post c Q) := fun ⟨a, w, h⟩ => h.2.1 rfl
def InLoop (P : Program) (x : Code) (Q : Exit → Act → World → Prop) (a : Act) (w : World) : Prop :=
  ∀ b k cs, ∃ e a' w', Q e a' w' ∧ Arrives P (lone (b.at a (.code x :: .inLoop x :: k)) cs w) b k cs e a' w'
theorem InLoop.wp {P : Program} {x : Code} {Q : Exit → Act → World → Prop} {a : Act} {w : World} (h : InLoop P x Q a w) : (Code.loop x).wp P Q a w := by
  intro b k cs
  obtain ⟨e, a', w', hq, harr⟩ := h b k cs
  exact ⟨e, a', w', hq, .of_steps (.one step_loop) harr⟩
theorem InLoop.step {P : Program} {x : Code} {Q : Exit → Act → World → Prop} {a : Act} {w : World} (h : x.wp P (Exit.then (InLoop P x Q) Q) a w) : InLoop P x Q a w := by
  intro b k cs
  obtain ⟨e, a₁, w₁, hq, harr⟩ := h b (.inLoop x :: k) cs
  cases e with
  | normal =>
    obtain ⟨e₂, a₂, w₂, hq₂, harr₂⟩ := hq b k cs
    exact ⟨e₂, a₂, w₂, hq₂, .of_steps (Steps.trans harr (.one step_inLoop)) harr₂⟩
  | exit id => exact ⟨_, a₁, w₁, hq, .pass (x := .inLoop x) rfl (fun _ _ => .inl (by simp)) harr⟩
  | goto l => exact ⟨_, a₁, w₁, hq, .pass (x := .inLoop x) rfl (fun _ _ => .inl (by simp)) harr⟩
  | ret => exact ⟨_, a₁, w₁, hq, .pass (x := .inLoop x) rfl (fun _ _ => .inl (by simp)) harr⟩
  | panic ch => exact ⟨_, a₁, w₁, hq, .pass (x := .inLoop x) rfl (fun _ _ => .inl (by simp)) harr⟩
  | outgrown => exact ⟨_, a₁, w₁, hq, .pass (x := .inLoop x) rfl (fun _ _ => .inl (by simp)) harr⟩
theorem InLoop.idx {P : Program} {Q : Exit → Act → World → Prop} {x : Code} (J : Nat → Act → World → Prop)
    (round : ∀ n a w, J n a w → x.wp P (Exit.then (fun a' w' => ∃ m, m < n ∧ J m a' w') Q) a w) : ∀ (n : Nat) (a : Act) (w : World), J n a w → InLoop P x Q a w := by
  intro n
  induction n using Nat.strongRecOn with
  | _ n ih =>
    intro a w hJ
    refine InLoop.step (Code.wp_mono (fun e a₁ w₁ hq => ?_) (round n a w hJ))
    cases e with
    | normal =>
      obtain ⟨m, hm, hJ₁⟩ := hq
      exact ih m hm a₁ w₁ hJ₁
    | _ => exact hq

theorem code_sound {g : Hints} : ∀ (x : Code) {F : Frm} {H : Hp} {Q : Exit → Frm → Hp → Prop}, wpx c.P c.ro c.nt c.n0 g x F H Q → ∀ a w, Sat c F H a w → x.wp c.P (Post c Q) a w := by
  intro x
  induction x with
  | skip => intro F H Q h a w hs; exact wp_skip ⟨fun _ => by simp, by simp, F, H, h, hs⟩
  | region id ops draw =>
    intro F H Q h a w hs
    cases draw with
    | false =>
      replace h : wRegion c.P c.ro c.nt c.n0 g id ops false F H Q := h
      unfold wRegion at h
      simp only at h
      split at h
      · exact wp_region_list (opsx_sound ops.toList h (fun F H a w hk hs => ⟨fun _ => by simp, by simp, F, H, hk, hs⟩) a w hs)
      · obtain ⟨F₀, H₀, h, hs⟩ := h.run.sat hs
        exact wp_region_list (opsx_sound ops.toList h (fun F H a w hk hs => ⟨fun _ => by simp, by simp, F, H, hk, hs⟩) a w hs)
    | true =>
      replace h : wRegion c.P c.ro c.nt c.n0 g id ops true F H Q := h
      unfold wRegion at h
      simp only at h
      split at h
      · obtain ⟨hb, h⟩ := needx_elim h
        simp only [Bool.and_eq_true] at hb
        refine wp_region_any hb.2 (anyG_any _ _ _ _ (anyx_sound (Q := Post c Q) Post.not_panic Post.not_out hb.1.1 hb.1.2 ops.size h (fun F H a w hk hs => ⟨fun _ => by simp, by simp, F, H, hk, hs⟩) _ a _ (Lists.nil ops) ?_))
        obtain ⟨β, hw, hf⟩ := hs
        exact ⟨β, hw.tick _, hf⟩
      · obtain ⟨hb, h⟩ := regx_elim h
        unfold regOK at hb
        simp only [Bool.and_eq_true] at hb
        obtain ⟨⟨⟨⟨h1, h2⟩, h3⟩, h4⟩, h5⟩ := hb
        refine wp_region_any h3 (anyG_any _ _ _ _ (seqx_sound (Q := Post c Q) Post.not_panic Post.not_out h1 h2 _ ops.size (Nat.le_of_ble_eq_true h4) h5 h (fun F H a w hk hs => ⟨fun _ => by simp, by simp, F, H, hk, hs⟩) _ a _ (Lists.nil ops) ?_))
        obtain ⟨β, hw, hf⟩ := hs
        exact ⟨β, hw.tick _, hf⟩
  | seq x y ihx ihy =>
    intro F H Q h a w hs
    refine wp_seq (Code.wp_mono (fun e a w hp => ?_) (ihx h a w hs))
    obtain ⟨h1, h2, F', H', hq, hs'⟩ := hp
    cases e with
    | normal => exact ihy hq a w hs'
    | _ => exact ⟨h1, h2, F', H', hq, hs'⟩
  | cond o x y ihx ihy =>
    intro F H Q h a w hs
    replace h : wCond o (wpx c.P c.ro c.nt c.n0 g x) (wpx c.P c.ro c.nt c.n0 g y) F H Q := h
    unfold wCond at h
    split at h
    · rename_i t ht
      have hev : a.eval o = .bool t := by
        obtain ⟨β, hw, hf⟩ := hs
        exact (rho_sound hf ht).1
      rcases condx_elim h with ⟨e, h⟩ | ⟨e, h⟩
      · subst e; exact wp_cond_true hev (ihx h a w hs)
      · subst e; exact wp_cond_false hev (ihy h a w hs)
    · exact h.elim
  | block id x ih =>
    intro F H Q h a w hs
    refine wp_block (Code.wp_mono (fun e a w hp => ?_) (ih h a w hs))
    obtain ⟨h1, h2, F', H', hq, hs'⟩ := hp
    cases e with
    | exit i =>
      simp only [Exit.inBlock]
      by_cases hi : i = id
      · subst hi
        simp only [Nat.beq_refl] at hq
        rw [if_pos rfl]
        exact ⟨fun _ => by simp, by simp, F', H', hq, hs'⟩
      · have hb : Nat.beq i id = false := by
          cases hb : Nat.beq i id with
          | false => rfl
          | true => exact absurd (Nat.eq_of_beq_eq_true hb) hi
        simp only [hb] at hq
        rw [if_neg hi]
        exact ⟨h1, h2, F', H', hq, hs'⟩
    | _ => exact ⟨h1, h2, F', H', hq, hs'⟩
  | loop x ih =>
    intro F H Q h a w hs
    replace h : loopx c.n0 (wpx c.P c.ro c.nt c.n0 g x) F H Q := h
    replace h := h.run
    obtain ⟨k, h⟩ := h
    refine InLoop.wp ?_
    induction k generalizing F H a w with
    | zero =>
      obtain ⟨I, n, h0, hround⟩ := h
      refine InLoop.idx (fun n a w => ∃ F H, I n F H ∧ Sat c F H a w) (fun n a w hJ => ?_) n a w (h0.sat hs)
      obtain ⟨F, H, hI, hs⟩ := hJ
      refine Code.wp_mono (fun e a w hp => ?_) (ih (hround n F H hI) a w hs)
      obtain ⟨h1, h2, F', H', hq, hs'⟩ := hp
      cases e with
      | normal =>
        obtain ⟨m, hm, hin⟩ := hq
        exact ⟨m, hm, hin.sat hs'⟩
      | _ => exact ⟨h1, h2, F', H', hq, hs'⟩
    | succ k ihk =>
      refine InLoop.step (Code.wp_mono (fun e a w hp => ?_) (ih h a w hs))
      obtain ⟨h1, h2, F', H', hq, hs'⟩ := hp
      cases e with
      | normal => exact ihk a w hs' hq
      | _ => exact ⟨h1, h2, F', H', hq, hs'⟩
  | exit id => intro F H Q h a w hs; exact wp_exit ⟨fun _ => by simp, by simp, F, H, h, hs⟩
  | ret => intro F H Q h a w hs; exact wp_ret ⟨fun _ => by simp, by simp, F, H, h, hs⟩
  | _ => intro F H Q h; exact False.elim h
end code

/-! ### Functions. -/
def frm0 : Nat → List V → Frm
  | _, [] => []
  | k, v :: l => (k, v) :: frm0 (k + 1) l
theorem look_frm0 : ∀ (l : List V) (k i : Nat) (v : V), look (frm0 k l) i = some v → k ≤ i ∧ l[i - k]? = some v
  | [], _, _, _, h => by cases h
  | u :: l, k, i, v, h => by
    unfold frm0 look at h
    split at h
    · rename_i he
      have : k = i := by simpa using he
      subst this
      injection h with h
      subst h
      simp
    · have := look_frm0 l (k + 1) i v h
      refine ⟨by omega, ?_⟩
      rw [show i - k = (i - (k + 1)) + 1 by omega]
      simpa using this.2
/-- What a function hands back. -/
def resl (P : Program) (ro : Addr → A → Prop) (F : Frm) (H : Hp) : List ResultVar → (List E → Prop) → Prop
  | [], K => K []
  | .tmp t :: l, K => optx (look F t) fun v => optx v.toE fun e => resl P ro F H l fun es => K (e :: es)
  | .cell a t :: l, K => optx (look F a) fun p => loadx P ro H t p fun v => optx v.toE fun e => resl P ro F H l fun es => K (e :: es)
def resx (P : Program) (ro : Addr → A → Prop) (rs : List ResultVar) (F : Frm) (H : Hp) (K : V → Hp → Prop) : Prop := match rs with
  | [.tmp t] => optx (look F t) fun v => K v H
  | [.cell a t] => optx (look F a) fun p => loadx P ro H t p fun v => K v H
  | rs => needx (!(Nat.beq rs.length 1)) (resl P ro F H rs fun es => K (.t es) H)
section funcs
variable {c : Ctx} {β : Num} {F : Frm} {H : Hp} {a : Act} {w : World}
def oneResult (tmps : Array Value) : ResultVar → Sem Value
  | .tmp t => pure (tmps.getD t undef)
  | .cell a t => do loadVar t (← asAddr (tmps.getD a undef))
theorem results_eq (fn : Func) (tmps : Array Value) : results fn tmps = (do
    let vs ← fn.results.toList.mapM (oneResult tmps)
    pure (if h : vs.toArray.size = 1 then vs.toArray[0] else .tuple vs.toArray)) := by
  unfold results
  rw [Array.mapM_eq_mapM_toList]
  simp only [bind_map_left]
  rfl
theorem slot_getD (hf : FSat c β F H a) {t : Nat} {v : V} (h : look F t = some v) : a.tmps.getD t undef = v.val β := by
  have := hf.slot t v h
  simp [Array.getD_eq_getD_getElem?, this]
theorem resl_sound (hw : WSat c β H w) (hf : FSat c β F H a) : ∀ (rs : List ResultVar) {K : List E → Prop}, resl c.P c.ro F H rs K →
    ∃ es, K es ∧ es.length = rs.length ∧ (∀ e ∈ es, e.fit β H.length) ∧ (rs.mapM (oneResult a.tmps)).run c.P w = .ok (es.map (E.val β)) w
  | [], K, h => ⟨[], h, rfl, by simp, rfl⟩
  | .tmp t :: l, K, h => by
    obtain ⟨v, hv, h⟩ := optx_elim (show optx _ _ from h)
    obtain ⟨e, he, h⟩ := optx_elim h
    obtain ⟨es, hk, hl, hok, hr⟩ := resl_sound hw hf l h
    refine ⟨e :: es, hk, by simp [hl], fun x hx => ?_, ?_⟩
    · rcases List.mem_cons.1 hx with rfl | hx
      · exact V.toE_fit he (hf.ok t v hv)
      · exact hok x hx
    · simp only [List.mapM_cons, oneResult, Sem.run_bind, Sem.run_pure, Result.andThen_ok, hr, slot_getD hf hv, List.map_cons, V.toE_val he]
  | .cell p t :: l, K, h => by
    obtain ⟨v, hv, h⟩ := optx_elim (show optx _ _ from h)
    obtain ⟨r, h, hl0⟩ := loadx_sound h
    obtain ⟨hrok, q, hq, hrun⟩ := hl0 β w hw (hf.ok p v hv).2
    obtain ⟨e, he, h⟩ := optx_elim h
    obtain ⟨es, hk, hl, hok, hr⟩ := resl_sound hw hf l h
    refine ⟨e :: es, hk, by simp [hl], fun x hx => ?_, ?_⟩
    · rcases List.mem_cons.1 hx with rfl | hx
      · exact V.toE_fit he hrok
      · exact hok x hx
    · have ha : (asAddr (a.tmps.getD p undef)).run c.P w = .ok q w := by rw [slot_getD hf hv, hq]; rfl
      simp only [List.mapM_cons, oneResult, Sem.run_bind, ha, Result.andThen_ok, hrun, hr, Sem.run_pure, List.map_cons, V.toE_val he]
theorem resx_sound {fn : Func} (hw : WSat c β H w) (hf : FSat c β F H a) {K : V → Hp → Prop} (h : resx c.P c.ro fn.results.toList F H K) :
    ∃ v, K v H ∧ v.fit β H.length ∧ (results fn a.tmps).run c.P w = .ok (v.val β) w := by
  rw [results_eq]
  unfold resx at h
  split at h
  · rename_i t hrs
    obtain ⟨v, hv, h⟩ := optx_elim h
    refine ⟨v, h, hf.ok t v hv, ?_⟩
    rw [hrs]
    simp [oneResult, slot_getD hf hv]
  · rename_i p t hrs
    obtain ⟨v, hv, h⟩ := optx_elim h
    obtain ⟨r, h, hl0⟩ := loadx_sound h
    obtain ⟨hrok, q, hq, hrun⟩ := hl0 β w hw (hf.ok p v hv).2
    have ha : (asAddr (a.tmps.getD p undef)).run c.P w = .ok q w := by rw [slot_getD hf hv, hq]; rfl
    refine ⟨r, h, hrok, ?_⟩
    rw [hrs]
    simp only [List.mapM_cons, List.mapM_nil, oneResult, Sem.run_bind, ha, Result.andThen_ok, hrun, Sem.run_pure]
    rfl
  · obtain ⟨hn, h⟩ := needx_elim h
    obtain ⟨es, hk, hl, hok, hr⟩ := resl_sound hw hf _ h
    refine ⟨.t es, hk, V.fit_t hok, ?_⟩
    have hne : ¬ (es.map (E.val β)).toArray.size = 1 := by
      simp only [List.size_toArray, List.length_map, hl]
      intro e
      rw [e] at hn
      simp at hn
    simp only [Sem.run_bind, hr, Result.andThen_ok, Sem.run_pure, dif_neg hne]
    rfl
end funcs
def endx (P : Program) (ro : Addr → A → Prop) (rs : List ResultVar) (K : V → Hp → Prop) (e : Exit) (F : Frm) (H : Hp) : Prop := match e with
  | .normal => resx P ro rs F H K
  | .ret => resx P ro rs F H K
  | _ => False
/-- A function by its code. -/
theorem Fn.of_code {P : Program} {ro : Addr → A → Prop} {f : FuncId} {fn : Func} {x : Code} {args : List V} {H : Hp} {K : V → Hp → Prop} (g : Hints) (hf : P.funcs[f]? = some fn) (hb : fn.body = some x) (hn : args.length ≤ fn.ntmps)
    (h : wpx P ro fn.ntmps H.length g x (frm0 0 args) H (endx P ro fn.results.toList K)) : Fn P ro f args H K := by
  refine ⟨fun β w hok hw => ?_⟩
  let c : Ctx := { P := P, ro := ro, n0 := H.length, β0 := β, w0 := w, nt := fn.ntmps }
  have hw' : WSat c β H w := ⟨hw.inj, hw.blk, hw.bare, hw.ok, hw.base, hw.n0, hw.fr, hw.new, hw.ro⟩
  refine calls_of_wp hf hb ?_
  let a : Act := { tmps := (args.map (V.val β)).toArray ++ Array.replicate (fn.ntmps - (args.map (V.val β)).toArray.size) undef, defers := [] }
  have hfs : FSat c β (frm0 0 args) H a := by
    refine ⟨fun i v hv => ?_, fun i v hv => ?_, ?_, rfl⟩
    · have := (look_frm0 args 0 i v hv).2
      rw [Nat.sub_zero] at this
      have hi : i < args.length := (List.getElem?_eq_some_iff.1 this).1
      show ((args.map (V.val β)).toArray ++ _)[i]? = _
      rw [Array.getElem?_append_left (by simpa using hi)]
      simp [this]
    · have := (look_frm0 args 0 i v hv).2
      rw [Nat.sub_zero] at this
      exact hok v (List.mem_of_getElem? this)
    · show ((args.map (V.val β)).toArray ++ Array.replicate _ _).size = fn.ntmps
      simp
      omega
  refine Code.wp_mono (fun e a w' hp => ?_) (code_sound (c := c) x h a w ⟨β, hw', hfs⟩)
  obtain ⟨_, _, F', H', hq, β', hw2, hf2⟩ := hp
  have fin : resx P ro fn.results.toList F' H' K → a.defers = [] ∧ ∃ v, (results fn a.tmps).run P w' = .ok v w' ∧ ∃ v' H' β', K v' H' ∧ Ending.returned v = .returned (v'.val β') ∧ v'.fit β' H'.length ∧
      Mv { P := P, ro := ro, n0 := H.length, β0 := β, w0 := w, nt := 0 } β H w β' H' w' := by
    intro hr
    obtain ⟨v, hk, hv, hrun⟩ := resx_sound (c := c) hw2 hf2 hr
    refine ⟨hf2.defers, _, hrun, v, H', β', hk, rfl, hv, ⟨⟨hw2.inj, hw2.blk, hw2.bare, hw2.ok, hw2.base, hw2.n0, hw2.fr, hw2.new, hw2.ro⟩, hw2.base, hw2.n0, hw2.fr, hw2.new⟩⟩
  cases e with
  | normal => exact fin hq
  | ret => exact fin hq
  | _ => exact hq.elim
end Go.Eng
/- The engine, part E: how a walk begins, and small rules for use. -/
set_option linter.unusedVariables false
namespace Go.Eng
open Go.RowKit

/-- A function that is handed read-only memory alone: what it tells at the row. -/
theorem Fn.top {P : Program} {ro : Addr → A → Prop} {f : FuncId} {args : List V} {w : World} (hro : RoOK ro (fun _ => none) 0 w) (hargs : ∀ v ∈ args, v.ok 0)
    (h : Fn P ro f args [] (fun v _ => v = .a (.bool true))) : Calls P f (args.map (V.val fun _ => none)).toArray w fun e w' => e = .returned (.bool true) ∧ Below w.heap.size w w' := by
  replace h := h.run
  refine (h (fun _ => none) w (fun v hv => V.fit_of0 (hargs v hv)) ⟨?_, ?_, ?_, ?_, fun _ _ => rfl, Nat.le_refl _, Fr.refl _ _ _, ?_, hro⟩).mono fun e w' ⟨v, H', β', hv, he, _, hm⟩ => ?_
  · intro i j b hi; exact absurd hi (Nat.not_lt_zero _)
  · intro i b o h; simp at h
  · intro i o h; simp at h
  · intro i o h; simp at h
  · intro i b _ hi; exact absurd hi (Nat.not_lt_zero _)
  · subst hv
    refine ⟨he, hm.fr.os, hm.fr.tape, hm.fr.output, hm.fr.size, fun k hk => hm.fr.keep k hk fun i hi => ?_⟩
    exact absurd hi (Nat.not_lt_zero _)
theorem RoOK.none (β0 : Num) (n0 : Nat) (w : World) : RoOK (fun _ _ => False) β0 n0 w := ⟨fun _ _ h => h.elim, fun _ _ h => h.elim, fun _ _ h => h.elim, fun _ _ h => h.elim⟩
theorem Fn.mono {P : Program} {ro : Addr → A → Prop} {f : FuncId} {args : List V} {H : Hp} {K K' : V → Hp → Prop} (h : Fn P ro f args H K) (hk : ∀ v H', K v H' → K' v H') : Fn P ro f args H K' := by
  replace h := h.run
  refine ⟨fun β w hok hw => ?_⟩
  exact (h β w hok hw).mono fun e w' ⟨v, H', β', hv, he, hvo, hm⟩ => ⟨v, H', β', hk v H' hv, he, hvo, hm⟩
theorem Into.mono {n0 : Nat} {F : Frm} {H : Hp} {I J : Frm → Hp → Prop} (h : Into n0 F H I) (hJ : ∀ F H, I F H → J F H) : Into n0 F H J := by
  replace h : IntoI n0 I F H := h
  show IntoI n0 J F H
  induction h with
  | sub h hj => exact .sub h (hJ _ _ hj)
  | weak h hj => exact .weak h (hJ _ _ hj)
  | gho h _ ih => exact .gho h ih
/-- Ways are joined: what is known of slots and blocks, and the walk from there. -/
theorem cutx_of {n0 : Nat} {F : Frm} {H : Hp} {J : Frm → Hp → Prop} (I : Frm → Hp → Prop) (h : Into n0 F H I) (hJ : ∀ F H, I F H → J F H) : cutx n0 F H J := ⟨h.mono hJ⟩
theorem loopx_of {n0 : Nat} {body : Frm → Hp → (Exit → Frm → Hp → Prop) → Prop} {F : Frm} {H : Hp} {Q : Exit → Frm → Hp → Prop} (I : Nat → Frm → Hp → Prop) (n : Nat) (h0 : Into n0 F H (I n))
    (h : ∀ n F H, I n F H → body F H (fun e F' H' => match e with
      | .normal => ∃ m, m < n ∧ Into n0 F' H' (I m)
      | e => Q e F' H')) : loopx n0 body F H Q := by
  exact ⟨⟨0, I, n, h0, h⟩⟩
theorem loopx_iter {n0 : Nat} {body : Frm → Hp → (Exit → Frm → Hp → Prop) → Prop} {F : Frm} {H : Hp} {Q : Exit → Frm → Hp → Prop} (k : Nat) (h : iterx n0 body Q k F H) : loopx n0 body F H Q := by
  exact ⟨⟨k, h⟩⟩

/-! ### '==' of structs and arrays, worked out part by part. -/
def partO (P : Program) (t : TypeId) (cs : List A) (off : Nat) : Option V :=
  match aggOf P t, P.info? t with
  | some false, _ => match cs[off]? with
    | some x => some (.a x)
    | none => none
  | some true, some i => some (.g ((cs.take (off + i.size)).drop off))
  | _, _ => none
theorem partO_part {P : Program} {t : TypeId} {cs : List A} {off : Nat} {v : V} (h : partO P t cs off = some v) (β : Num) (w : World) :
    (part t (cs.map (A.val β)).toArray off).run P w = .ok (v.val β) w := by
  have hp : partx P t cs off (fun u => u = v) := by
    unfold partO at h
    unfold partx
    split at h
    · rename_i ht
      split at h
      · rename_i x hx
        simp only [Option.some.injEq] at h
        simp [optx, hx, h, ht]
      · cases h
    · rename_i q ht hq
      simp only [Option.some.injEq] at h
      simp [ht, hq, h]
    · cases h
  obtain ⟨u, hu, hr⟩ := partx_sound hp
  subst hu
  unfold partO at h
  split at h
  · rename_i ht
    split at h
    · rename_i x hx
      simp only [Option.some.injEq] at h
      subst h
      simp [part, aggOf_sound ht, hx, V.val_a]
    · cases h
  · rename_i q ht hq
    simp only [Option.some.injEq] at h
    subst h
    simp [part, aggOf_sound ht, sizeOf, typeInfo, hq, V.val, List.map_take, List.map_drop, List.drop_take]
  · cases h
def andO : Option Bool → Option Bool → Option Bool
  | some a, some b => some (a && b)
  | _, _ => none
def eqFl (P : Program) (rec : TypeId → V → V → Option Bool) (xs ys : List A) : List Field → Option Bool
  | [] => some true
  | f :: fs => match f.name != "_" with
    | true => match partO P f.type xs f.offset, partO P f.type ys f.offset with
      | some a, some b => andO (rec f.type a b) (eqFl P rec xs ys fs)
      | _, _ => none
    | false => eqFl P rec xs ys fs
def eqIt (P : Program) (rec : TypeId → V → V → Option Bool) (e : TypeId) (c : Nat) (xs ys : List A) : List Nat → Option Bool
  | [] => some true
  | i :: is => match partO P e xs (i * c), partO P e ys (i * c) with
    | some a, some b => andO (rec e a b) (eqIt P rec e c xs ys is)
    | _, _ => none
def eqS (P : Program) (t : TypeId) (x y : A) : Option Bool := match P.underlying t, x, y with
  | some (.int _), .int k a, .int k' b => if k = k' then some (decide (a = b)) else none
  | some .string, .str a, .str b => some (a.data.toList == b.data.toList)
  | _, x, y => eqAtom P t x y
def eqD (P : Program) : Nat → TypeId → V → V → Option Bool
  | 0, _, _, _ => none
  | d + 1, t, .a x, .a y => eqS P t x y
  | d + 1, t, .g xs, .g ys => match P.underlying t with
    | some (.struct fs) => match P.stoodInHeld t with
      | true => none
      | false => eqFl P (eqD P d) xs ys fs.toList
    | some (.array n e) => match P.info? e with
      | some i => eqIt P (eqD P d) e i.size xs ys (List.range n)
      | none => none
    | _ => none
  | _, _, _, _ => none
theorem partO_gh {P : Program} {t : TypeId} {cs : List A} {off : Nat} {v : V} (h : partO P t cs off = some v) {β : Num} (hg : ∀ x ∈ cs, x.gh β) : v.gh β := by
  unfold partO at h
  split at h
  · split at h
    · rename_i x hx
      simp only [Option.some.injEq] at h
      subst h
      exact hg x (List.mem_of_getElem? hx)
    · cases h
  · simp only [Option.some.injEq] at h
    subst h
    exact fun x hx => hg x (List.mem_of_mem_take (List.mem_of_mem_drop hx))
  · cases h
theorem andO_some {x y : Option Bool} {b : Bool} (h : andO x y = some b) : ∃ p q, x = some p ∧ y = some q ∧ b = (p && q) := by
  cases x <;> cases y <;> simp_all [andO]
theorem eqS_sound {P : Program} {t : TypeId} {x y : A} {b : Bool} (h : eqS P t x y = some b) (β : Num) (w : World) (d : Nat) (gx : x.gh β) (gy : y.gh β) :
    (Op.equalIn (d + 1) t (x.val β) (y.val β)).run P w = .ok b w := by
  unfold eqS at h
  split at h
  · rename_i k0 k a k' c hu
    split at h
    · rename_i hk
      subst hk
      simp only [Option.some.injEq] at h
      subst h
      rw [A.val, A.val, run_equalIn_int w d t k k0 a c hu]
      rfl
    · cases h
  · rename_i a c hu
    simp only [Option.some.injEq] at h
    subst h
    rw [A.val, A.val, run_equalIn_string w d t a c hu, Go.ByteArray.toList_eq, Go.ByteArray.toList_eq]
  · exact eqAtom_in h β w d gx gy
theorem eqFl_sound {P : Program} {rec : TypeId → V → V → Option Bool} {d : Nat} (ih : ∀ t x y b, rec t x y = some b → ∀ (β : Num) (w : World), x.gh β → y.gh β → (Op.equalIn d t (x.val β) (y.val β)).run P w = .ok b w)
    {xs ys : List A} (β : Num) (w : World) (gx : ∀ x ∈ xs, x.gh β) (gy : ∀ y ∈ ys, y.gh β) : ∀ (fs : List Field) {b : Bool}, eqFl P rec xs ys fs = some b → (Op.eqFields d (xs.map (A.val β)).toArray (ys.map (A.val β)).toArray fs).run P w = .ok b w
  | [], b, h => by
    simp only [eqFl, Option.some.injEq] at h
    subst h
    simp [Op.eqFields]
  | f :: fs, b, h => by
    unfold eqFl at h
    split at h
    · rename_i hn
      have hn' : f.name ≠ "_" := by simpa using hn
      split at h
      · rename_i x y hx hy
        obtain ⟨p, q, hp, hq, rfl⟩ := andO_some h
        have h1 := ih _ _ _ _ hp β w (partO_gh hx gx) (partO_gh hy gy)
        have h2 := eqFl_sound ih β w gx gy fs hq
        simp only [Op.eqFields, hn', ne_eq, not_false_eq_true, if_true, Sem.run_bind, partO_part hx, partO_part hy, Result.andThen_ok, h1]
        cases p
        · simp
        · simpa using h2
      · cases h
    · rename_i hn
      have hn' : ¬ f.name ≠ "_" := by simpa using hn
      simp only [Op.eqFields, if_neg hn']
      exact eqFl_sound ih β w gx gy fs h
theorem eqIt_sound {P : Program} {rec : TypeId → V → V → Option Bool} {d : Nat} (ih : ∀ t x y b, rec t x y = some b → ∀ (β : Num) (w : World), x.gh β → y.gh β → (Op.equalIn d t (x.val β) (y.val β)).run P w = .ok b w)
    {e : TypeId} {c : Nat} {xs ys : List A} (β : Num) (w : World) (gx : ∀ x ∈ xs, x.gh β) (gy : ∀ y ∈ ys, y.gh β) : ∀ (is : List Nat) {b : Bool}, eqIt P rec e c xs ys is = some b → (Op.eqItems d e c (xs.map (A.val β)).toArray (ys.map (A.val β)).toArray is).run P w = .ok b w
  | [], b, h => by
    simp only [eqIt, Option.some.injEq] at h
    subst h
    simp [Op.eqItems]
  | i :: is, b, h => by
    unfold eqIt at h
    split at h
    · rename_i x y hx hy
      obtain ⟨p, q, hp, hq, rfl⟩ := andO_some h
      have h1 := ih _ _ _ _ hp β w (partO_gh hx gx) (partO_gh hy gy)
      have h2 := eqIt_sound ih β w gx gy is hq
      simp only [Op.eqItems, Sem.run_bind, partO_part hx, partO_part hy, Result.andThen_ok, h1]
      cases p
      · simp
      · simpa using h2
    · cases h
theorem eqD_sound {P : Program} : ∀ (k : Nat) (t : TypeId) (x y : V) (b : Bool), eqD P k t x y = some b → ∀ (d : Nat) (β : Num) (w : World), x.gh β → y.gh β → (Op.equalIn (d + k) t (x.val β) (y.val β)).run P w = .ok b w
  | 0, _, _, _, _, h => by simp [eqD] at h
  | k + 1, t, x, y, b, h => by
    intro d β w gx gy
    cases x with
    | a x =>
      cases y with
      | a y => exact eqS_sound (show eqS P t x y = some b from h) β w (d + k) gx gy
      | _ => simp [eqD] at h
    | g xs =>
      cases y with
      | g ys =>
        have ih : ∀ t x y b, eqD P k t x y = some b → ∀ (β : Num) (w : World), x.gh β → y.gh β → (Op.equalIn (d + k) t (x.val β) (y.val β)).run P w = .ok b w := fun t x y b hb β w gx gy => eqD_sound k t x y b hb d β w gx gy
        simp only [eqD] at h
        split at h
        · rename_i fs hu
          split at h
          · cases h
          · rename_i hs
            have hf : P.fieldsOf t = fs := by simp [Program.fieldsOf, hu]
            rw [← hf] at hu h
            show (Op.equalIn ((d + k) + 1) t _ _).run P w = _
            simp only [V.val]
            rw [run_equalIn_struct w (d + k) t _ _ hu hs]
            exact eqFl_sound ih β w gx gy _ h
        · rename_i n e hu
          split at h
          · rename_i i hi
            show (Op.equalIn ((d + k) + 1) t _ _).run P w = _
            simp only [V.val]
            rw [run_equalIn_array w (d + k) _ _ hu hi]
            have hc : P.cellsOf e = i.size := by simp [Program.cellsOf, hi]
            rw [hc]
            exact eqIt_sound ih β w gx gy _ h
          · cases h
        · cases h
      | _ => simp [eqD] at h
    | t xs => simp [eqD] at h
theorem EqAgg.of {P : Program} {t : TypeId} {xs ys : List A} {b : Bool} (h : eqD P 12 t (.g xs) (.g ys) = some b) : EqAgg P t xs ys b := fun β w gx gy => eqD_sound 12 t _ _ b h 9988 β w gx gy

/-! ### The head of a loop: fewer slots, fewer blocks, worked out. -/
def A.okb (n : Nat) : A → Bool
  | .ptr i _ => Nat.blt i n
  | .slc i _ _ _ => Nat.blt i n
  | .clo _ caps => caps.all fun q => Nat.blt q.1 n
  | .ifc _ x => x.okb n
  | _ => true
theorem A.okb_sound {n : Nat} : ∀ {x : A}, x.okb n = true → x.ok n := by
  intro x
  induction x with
  | ptr i o => intro h; simpa [A.okb, A.ok] using h
  | slc i o l c => intro h; simpa [A.okb, A.ok] using h
  | clo f caps => intro h; simpa [A.okb, A.ok] using h
  | ifc t x ih => intro h; exact ih h
  | _ => intro _; trivial
def E.okb (n : Nat) : E → Bool
  | .a x => x.okb n
  | .g cs => cs.all (A.okb n)
def V.okb (n : Nat) : V → Bool
  | .a x => x.okb n
  | .g cs => cs.all (A.okb n)
  | .t xs => xs.all (E.okb n)
def Ob.okb (n : Nat) : Ob → Bool
  | .cells cs _ _ => cs.all (A.okb n)
  | .iter _ _ => true
theorem all_okb {n : Nat} {cs : List A} (h : cs.all (A.okb n) = true) : ∀ x ∈ cs, x.ok n := fun x hx => A.okb_sound (List.all_eq_true.1 h x hx)
theorem E.okb_sound {n : Nat} {x : E} (h : x.okb n = true) : x.ok n := by
  cases x with
  | a x => exact A.okb_sound h
  | g cs => exact all_okb h
theorem V.okb_sound {n : Nat} {v : V} (h : v.okb n = true) : v.ok n := by
  cases v with
  | a x => exact A.okb_sound h
  | g cs => exact all_okb h
  | t xs => exact fun x hx => E.okb_sound (List.all_eq_true.1 h x hx)
theorem Ob.okb_sound {n : Nat} {o : Ob} (h : o.okb n = true) : o.ok n := by
  cases o with
  | cells cs ty mk => exact all_okb h
  | iter s p => trivial
def SubR (δ : Nat → Nat) : Frm → Frm → Prop
  | [], _ => True
  | (i, v) :: l, F => look F i = some (v.ren δ) ∧ SubR δ l F
def Blks (δ : Nat → Nat) (H : Hp) : Nat → Hp → Prop
  | _, [] => True
  | k, o :: l => H[δ k]? = some (o.ren δ) ∧ Blks δ H (k + 1) l
def frmOk (n : Nat) : Frm → Bool
  | [] => true
  | (_, v) :: l => v.okb n && frmOk n l
def dsOf (ds : List Nat) (i : Nat) : Nat := match ds[i]? with
  | some x => x
  | none => 0
def nodupb : List Nat → Bool
  | [] => true
  | x :: l => l.all (fun y => !(Nat.beq x y)) && nodupb l
def baseb (ds : List Nat) : Nat → Bool
  | 0 => true
  | k + 1 => (match ds[k]? with
    | some x => Nat.beq x k
    | none => false) && baseb ds k
theorem SubR.look : ∀ {F₀ F : Frm} {δ : Nat → Nat}, SubR δ F₀ F → ∀ i v, look F₀ i = some v → look F i = some (v.ren δ)
  | [], _, _, _, _, _, h => by cases h
  | (j, u) :: l, F, δ, hs, i, v, h => by
    unfold Eng.look at h
    split at h
    · rename_i he
      have : j = i := by simpa using he
      subst this
      injection h with h
      subst h
      exact hs.1
    · exact SubR.look hs.2 i v h
theorem Blks.get {δ : Nat → Nat} {H : Hp} : ∀ {k : Nat} {H₀ : Hp}, Blks δ H k H₀ → ∀ (i : Nat) (o : Ob), H₀[i]? = some o → H[δ (k + i)]? = some (o.ren δ)
  | _, [], _, _, _, h => by simp at h
  | k, u :: l, hb, 0, o, h => by
    simp only [List.getElem?_cons_zero, Option.some.injEq] at h
    subst h
    exact hb.1
  | k, u :: l, hb, i + 1, o, h => by
    have := Blks.get hb.2 i o (by simpa using h)
    rw [show k + (i + 1) = k + 1 + i by omega]
    exact this
theorem frmOk_sound {n : Nat} : ∀ {F : Frm}, frmOk n F = true → ∀ i v, look F i = some v → v.ok n
  | [], _, _, _, h => by cases h
  | (j, u) :: l, ho, i, v, h => by
    simp only [frmOk, Bool.and_eq_true] at ho
    unfold Eng.look at h
    split at h
    · injection h with h
      subst h
      exact V.okb_sound ho.1
    · exact frmOk_sound ho.2 i v h
theorem nodupb_sound : ∀ {l : List Nat}, nodupb l = true → ∀ (i j x : Nat), l[i]? = some x → l[j]? = some x → i = j
  | [], _, i, j, x, h, _ => by simp at h
  | y :: l, hn, i, j, x, hi, hj => by
    simp only [nodupb, Bool.and_eq_true, List.all_eq_true, Bool.not_eq_true'] at hn
    have no : ∀ k, l[k]? = some y → False := fun k hk => by
      have := hn.1 y (List.mem_of_getElem? hk)
      simp at this
    cases i with
    | zero =>
      simp only [List.getElem?_cons_zero, Option.some.injEq] at hi
      subst hi
      cases j with
      | zero => rfl
      | succ j => exact (no j (by simpa using hj)).elim
    | succ i =>
      cases j with
      | zero =>
        simp only [List.getElem?_cons_zero, Option.some.injEq] at hj
        subst hj
        exact (no i (by simpa using hi)).elim
      | succ j => rw [nodupb_sound hn.2 i j x (by simpa using hi) (by simpa using hj)]
theorem baseb_sound {ds : List Nat} : ∀ {k : Nat}, baseb ds k = true → ∀ i, i < k → dsOf ds i = i
  | 0, _, i, h => absurd h (Nat.not_lt_zero _)
  | k + 1, hb, i, hi => by
    simp only [baseb, Bool.and_eq_true] at hb
    by_cases e : i = k
    · subst e
      unfold dsOf
      cases hx : ds[i]? with
      | none => simp [hx] at hb
      | some x =>
        have h1 := hb.1
        simp only [hx] at h1
        exact Nat.eq_of_beq_eq_true h1
    · exact baseb_sound hb.2 i (by omega)
/-- At the head of a loop the frame has these slots, the heap these blocks (in the places 'ds'). -/
theorem Into.weak {n0 : Nat} {F : Frm} {H : Hp} {J : Frm → Hp → Prop} (ds : List Nat) (F₀ : Frm) (H₀ : Hp) (hj : J F₀ H₀) (hs : SubR (dsOf ds) F₀ F) (hb : Blks (dsOf ds) H 0 H₀)
    (hc : (Nat.ble n0 H₀.length && Nat.beq ds.length H₀.length && nodupb ds && baseb ds n0 && frmOk H₀.length F₀ && H₀.all (Ob.okb H₀.length)) = true) : Into n0 F H J := by
  simp only [Bool.and_eq_true] at hc
  obtain ⟨⟨⟨⟨⟨h1, h2⟩, h3⟩, h4⟩, h5⟩, h6⟩ := hc
  have hl : ds.length = H₀.length := Nat.eq_of_beq_eq_true h2
  refine IntoI.weak (F₀ := F₀) (H₀ := H₀) (δ := dsOf ds) ⟨fun i v h => hs.look i v h, fun i o h => by simpa using hb.get i o h, fun i j hi hj' e => ?_, fun i hi => baseb_sound h4 i hi, Nat.le_of_ble_eq_true h1, fun i v h => frmOk_sound h5 i v h, fun i o h => Ob.okb_sound (List.all_eq_true.1 h6 o (List.mem_of_getElem? h))⟩ hj
  have hi' : i < ds.length := by omega
  have hj'' : j < ds.length := by omega
  have e1 : dsOf ds i = ds[i] := by simp [dsOf, hi']
  have e2 : dsOf ds j = ds[j] := by simp [dsOf, hj'']
  exact nodupb_sound h3 i j ds[i] (by simp [hi']) (by rw [← e1, e, e2]; simp [hj''])
/-- Hints for regions that draw their order: of which calls it is said that they but grow the heap. -/
def gOf : List (Nat × List Nat × List (Nat × Nat)) → Hints
  | [], _ => ([], [])
  | (k, l) :: r, i => match Nat.beq k i with
    | true => l
    | false => gOf r i
/-- The regions of these numbers are cuts. -/
def cutAt (l : List Nat) (g : Hints) (i : Nat) : List Nat × List (Nat × Nat) := match l with
  | [] => g i
  | k :: l => match Nat.beq k i with
    | true => ([1], [])
    | false => cutAt l g i
theorem condx_pos {b : Bool} {T E : Prop} (h : b = true) (k : T) : condx b T E := by subst h; exact k
theorem condx_neg {b : Bool} {T E : Prop} (h : b = false) (k : E) : condx b T E := by subst h; exact k
theorem growx_true {H H' t : Hp} {K : Prop} (h : H ++ t = H') (k : K) : H <+: H' ∧ K := ⟨⟨t, h⟩, k⟩
theorem weakOf {n0 : Nat} {H H₀ : Hp} {F₀ F : Frm} (ds : List Nat) (hs : SubR (dsOf ds) F₀ F) (hb : Blks (dsOf ds) H 0 H₀)
    (hc : (Nat.ble n0 H₀.length && Nat.beq ds.length H₀.length && nodupb ds && baseb ds n0 && frmOk H₀.length F₀ && H₀.all (Ob.okb H₀.length)) = true) : Weak n0 (dsOf ds) F H F₀ H₀ := by
  simp only [Bool.and_eq_true] at hc
  obtain ⟨⟨⟨⟨⟨h1, h2⟩, h3⟩, h4⟩, h5⟩, h6⟩ := hc
  have hl : ds.length = H₀.length := Nat.eq_of_beq_eq_true h2
  refine ⟨fun i v h => hs.look i v h, fun i o h => by simpa using hb.get i o h, fun i j hi hj' e => ?_, fun i hi => baseb_sound h4 i hi, Nat.le_of_ble_eq_true h1, fun i v h => frmOk_sound h5 i v h, fun i o h => Ob.okb_sound (List.all_eq_true.1 h6 o (List.mem_of_getElem? h))⟩
  have hi' : i < ds.length := by omega
  have hj'' : j < ds.length := by omega
  have e1 : dsOf ds i = ds[i] := by simp [dsOf, hi']
  have e2 : dsOf ds j = ds[j] := by simp [dsOf, hj'']
  exact nodupb_sound h3 i j ds[i] (by simp [hi']) (by rw [← e1, e, e2]; simp [hj''])
/-- What a function hands back, on fewer blocks. -/
theorem Fn.weak {P : Program} {ro : Addr → A → Prop} {f : FuncId} {args : List V} {H : Hp} {K : V → Hp → Prop}
    (h : Fn P ro f args H (fun v H' => ∃ v₀ H₀ ds, v = v₀.ren (dsOf ds) ∧ Blks (dsOf ds) H' 0 H₀ ∧
      (Nat.ble H.length H₀.length && Nat.beq ds.length H₀.length && nodupb ds && baseb ds H.length && frmOk H₀.length [(0, v₀)] && H₀.all (Ob.okb H₀.length)) = true ∧ K v₀ H₀)) : Fn P ro f args H K := by
  replace h := h.run
  refine ⟨fun β w hok hw => ?_⟩
  refine (h β w hok hw).mono fun e w' ⟨v, H', β', ⟨v₀, H₀, ds, hv, hb, hc, hk⟩, he, hvo, hm⟩ => ?_
  have wk : Weak H.length (dsOf ds) [(0, v)] H' [(0, v₀)] H₀ := weakOf ds ⟨by rw [hv]; rfl, trivial⟩ hb hc
  have hs := hm.sat
  have hlt : ∀ k, k < H₀.length → dsOf ds k < H'.length := fun k hk' => hs.lenOf (wk.blk k H₀[k] (by simp [hk']))
  have hge : ∀ i, H.length ≤ i → i < H₀.length → H.length ≤ dsOf ds i := fun i hi hl => by
    rcases Nat.lt_or_ge (dsOf ds i) H.length with h' | h'
    · have e := wk.base (dsOf ds i) h'
      have := wk.inj (dsOf ds i) i (Nat.lt_of_lt_of_le h' wk.n0) hl e
      omega
    · exact h'
  refine ⟨v₀, H₀, fun i => β' (dsOf ds i), hk, ?_, ?_, ?_⟩
  · rw [he, hv, V.ren_val]
  · refine ⟨wk.fok 0 v₀ (by simp [look]), V.ren_gh (β := β') (δ := dsOf ds) ?_⟩
    rw [← hv]; exact hvo.2
  · refine ⟨⟨?_, ?_, ?_, ?_, ?_, wk.n0, hs.fr, ?_, hs.ro⟩, ?_, wk.n0, hm.fr, ?_⟩
    · intro i j b hi hj' e e'
      exact wk.inj i j hi hj' (hs.inj _ _ b (hlt i hi) (hlt j hj') e e')
    · intro i b o ho e
      rw [← Ob.ren_obj]
      exact hs.blk _ b _ (wk.blk i o ho) e
    · intro i o ho e
      exact Ob.ren_bare (hs.bare _ _ (wk.blk i o ho) e)
    · intro i o ho
      exact ⟨wk.hok i o ho, Ob.ren_gh (hs.ok _ _ (wk.blk i o ho)).2⟩
    · intro i hi
      show β' (dsOf ds i) = _
      rw [wk.base i hi]
      exact hs.base i hi
    · intro i b hi hl e
      exact hs.new (dsOf ds i) b (hge i hi hl) (hlt i hl) e
    · intro i hi
      show β' (dsOf ds i) = _
      rw [wk.base i hi]
      exact hm.agree i hi
    · intro i b hi hl e
      exact hm.new (dsOf ds i) b (hge i hi hl) (hlt i hl) e
/-! ### Nil slices as empty rows. -/
def SubU (k : Nat) : Frm → Frm → Prop
  | [], _ => True
  | (i, v) :: l, F => look F i = some (v.ung k) ∧ SubU k l F
def BlkU (k : Nat) : Hp → Hp → Prop
  | [], [] => True
  | [], o :: l => o.bare ∧ BlkU k [] l
  | o :: l, o₁ :: l₁ => o = o₁.ung k ∧ BlkU k l l₁
  | _ :: _, [] => False
theorem SubU.look : ∀ {F₁ F : Frm} {k : Nat}, SubU k F₁ F → ∀ i v, look F₁ i = some v → look F i = some (v.ung k)
  | [], _, _, _, _, _, h => by cases h
  | (j, u) :: l, F, k, hs, i, v, h => by
    unfold Eng.look at h
    split at h
    · rename_i he
      have : j = i := by simpa using he
      subst this
      injection h with h
      subst h
      exact hs.1
    · exact SubU.look hs.2 i v h
theorem BlkU.sound {k : Nat} : ∀ {H H₁ : Hp}, BlkU k H H₁ → H.length ≤ H₁.length ∧ (∀ (i : Nat) (o : Ob), i < H.length → H₁[i]? = some o → H[i]? = some (o.ung k)) ∧ ∀ (i : Nat) (o : Ob), H.length ≤ i → H₁[i]? = some o → o.bare
  | [], [], _ => ⟨Nat.le_refl _, fun i o h => absurd h (Nat.not_lt_zero _), fun i o _ h => by simp at h⟩
  | [], o :: l, h => by
    obtain ⟨_, _, h3⟩ := BlkU.sound (H := []) h.2
    refine ⟨Nat.zero_le _, fun i o h => absurd h (Nat.not_lt_zero _), fun i q _ hq => ?_⟩
    cases i with
    | zero => simp only [List.getElem?_cons_zero, Option.some.injEq] at hq; subst hq; exact h.1
    | succ i => exact h3 i q (Nat.zero_le _) (by simpa using hq)
  | o :: l, o₁ :: l₁, h => by
    obtain ⟨h1, h2, h3⟩ := BlkU.sound h.2
    refine ⟨by simpa using h1, fun i q hi hq => ?_, fun i q hi hq => ?_⟩
    · cases i with
      | zero => simp only [List.getElem?_cons_zero, Option.some.injEq] at hq; subst hq; simp [h.1]
      | succ i => simpa using h2 i q (by simpa using hi) (by simpa using hq)
    · cases i with
      | zero => simp at hi
      | succ i => exact h3 i q (by simpa using hi) (by simpa using hq)
  | _ :: _, [], h => h.elim
theorem ghoOf {F F₁ : Frm} {H H₁ : Hp} {k : Nat} (hk : H.length = k) (hs : SubU k F₁ F) (hb : BlkU k H H₁)
    (hc : (frmOk H₁.length F₁ && H₁.all (Ob.okb H₁.length)) = true) : Gho F H F₁ H₁ := by
  subst hk
  simp only [Bool.and_eq_true] at hc
  obtain ⟨h1, h2, h3⟩ := hb.sound
  exact ⟨h1, h2, h3, fun i v h => hs.look i v h, fun i v h => frmOk_sound hc.1 i v h, fun i o h => Ob.okb_sound (List.all_eq_true.1 hc.2 o (List.mem_of_getElem? h))⟩
/-- Nil slices become empty rows, in blocks behind the others (k: how many there were). -/
theorem Into.ghost {n0 : Nat} {F : Frm} {H : Hp} {J : Frm → Hp → Prop} (k : Nat) (F₁ : Frm) (H₁ : Hp) (hk : H.length = k) (hs : SubU k F₁ F) (hb : BlkU k H H₁)
    (hc : (frmOk H₁.length F₁ && H₁.all (Ob.okb H₁.length)) = true) (h : Into n0 F₁ H₁ J) : Into n0 F H J := IntoI.gho (ghoOf hk hs hb hc) h
/-- The same of what a function hands back. -/
theorem Fn.ghost {P : Program} {ro : Addr → A → Prop} {f : FuncId} {args : List V} {H : Hp} {K : V → Hp → Prop}
    (h : Fn P ro f args H (fun v H' => ∃ k v₁ H₁, H'.length = k ∧ v = v₁.ung k ∧ BlkU k H' H₁ ∧ (frmOk H₁.length [(0, v₁)] && H₁.all (Ob.okb H₁.length)) = true ∧ K v₁ H₁)) : Fn P ro f args H K := by
  replace h := h.run
  refine ⟨fun β w hok hw => ?_⟩
  refine (h β w hok hw).mono fun e w' ⟨v, H', β', ⟨k, v₁, H₁, hk, hv, hb, hc, hK⟩, he, hvo, hm⟩ => ?_
  have g : Gho [(0, v)] H' [(0, v₁)] H₁ := ghoOf hk ⟨by rw [hv]; rfl, trivial⟩ hb hc
  subst hk
  have hvo' : (v₁.ung H'.length).fit β' H'.length := by rw [← hv]; exact hvo
  obtain ⟨s1, s2⟩ := V.ung_sound hvo'
  refine ⟨v₁, H₁, upto β' H'.length, hK, ?_, ⟨g.fok 0 v₁ (by simp [look]), s1⟩, ⟨g.wsat hm.sat, fun i hi => ?_, Nat.le_trans hm.len g.len, hm.fr, fun i b h1 h2 e => ?_⟩⟩
  · rw [he, hv, s2]
  · rw [upto_lt (Nat.lt_of_lt_of_le hi hm.len)]; exact hm.agree i hi
  · rcases Nat.lt_or_ge i H'.length with h' | h'
    · rw [upto_lt h'] at e; exact hm.new i b h1 h' e
    · rw [upto_ge h'] at e; cases e
/-- Rows that stay whatever the numbers are. -/
theorem ung_of_ren {x : A} (h : ∀ δ, x.ren δ = x) (k : Nat) : x.ung k = x := by
  induction x with
  | slc i o l c =>
    have := h (fun _ => i + 1)
    simp [A.ren] at this
  | ifc t x ih =>
    simp only [A.ung]
    rw [ih fun δ => by have := h δ; simpa [A.ren] using this]
  | _ => rfl
theorem ung_row {cs : List A} (h : ∀ δ, cs.map (A.ren δ) = cs) (k : Nat) : cs.map (A.ung k) = cs := by
  have h' : ∀ x ∈ cs, ∀ δ, x.ren δ = x := fun x hx δ => by
    obtain ⟨i, hi⟩ := List.getElem?_of_mem hx
    have e : (cs.map (A.ren δ))[i]? = some (x.ren δ) := by rw [List.getElem?_map, hi]; rfl
    rw [h δ, hi] at e
    exact (Option.some.inj e).symm
  exact (List.map_congr_left fun x hx => ung_of_ren (h' x hx) k).trans (List.map_id cs)
end Go.Eng
/- The engine, part F: arguments, read in the row. -/
set_option linter.unusedVariables false
namespace Go.Eng
open Go.ChangeShapes Go.WideShapes

/-- What can be read of a world. -/
def roOf (W : World) (p : Addr) (x : A) : Prop := x.ok 0 ∧ W.cell? p = some (x.val fun _ => none)
theorem roOf.ok (W : World) : RoOK (roOf W) (fun _ => none) 0 W := by
  refine ⟨fun p x h => ?_, fun p x h => h.1, fun p x h => h.2, fun p x h i hi => absurd hi (Nat.not_lt_zero _)⟩
  have := h.2
  unfold World.cell? at this
  split at this
  · cases hs : p.spot with
    | none => rfl
    | some s => simp [hs] at this
  · cases this
/-- Kinds of cells without memory behind them. -/
inductive Sc where
  | bool
  | int (k : IntKind)
  | flt (k : FloatKind)
  | str
def Sc.fits : Sc → A → Prop
  | .bool, .bool _ => True
  | .int k, .int k' n => k' = k ∧ k.min ≤ n ∧ n ≤ k.max
  | .flt .f32, .flt k' b => k' = .f32 ∧ b < 2 ^ 32
  | .flt .f64, .flt k' b => k' = .f64 ∧ b < 2 ^ 64
  | .str, .str s => s.size ≤ maxLen
  | _, _ => False
def Fits : List Sc → List A → Prop
  | [], [] => True
  | s :: ss, x :: xs => s.fits x ∧ Fits ss xs
  | _, _ => False
theorem Fits.append : ∀ {ss : List Sc} {xs : List A} {ts : List Sc} {ys : List A}, Fits ss xs → Fits ts ys → Fits (ss ++ ts) (xs ++ ys)
  | [], [], _, _, _, h => h
  | [], _ :: _, _, _, h, _ => h.elim
  | _ :: _, [], _, _, h, _ => h.elim
  | _ :: _, _ :: _, _, _, h, h' => ⟨h.1, Fits.append h.2 h'⟩
theorem Sc.fits_ok {s : Sc} {x : A} (h : s.fits x) : x.ok 0 := by
  unfold Sc.fits at h
  split at h <;> first | trivial | exact h.elim
theorem Fits.ok : ∀ {ss : List Sc} {xs : List A}, Fits ss xs → ∀ x ∈ xs, x.ok 0
  | [], [], _, _, hx => by cases hx
  | [], _ :: _, h, _, _ => h.elim
  | _ :: _, [], h, _, _ => h.elim
  | _ :: _, _ :: _, h, x, hx => by
    rcases List.mem_cons.1 hx with rfl | hx
    · exact Sc.fits_ok h.1
    · exact Fits.ok h.2 x hx
def scalF (P : Program) (rec : TypeId → Option (List Sc)) : List Field → Nat → Nat → Option (List Sc)
  | [], off, e => if off = e then some [] else none
  | f :: fs, off, e => if f.offset = off then match rec f.type, scalF P rec fs (off + P.cellsOf f.type) e with
    | some l, some r => some (l ++ r)
    | _, _ => none
    else none
def scal (P : Program) : Nat → TypeId → Option (List Sc)
  | 0, _ => none
  | d + 1, t => match P.underlying t with
    | some .bool => some [.bool]
    | some (.int k) => some [.int k]
    | some (.float k) => some [.flt k]
    | some .string => some [.str]
    | some (.struct fs) => scalF P (scal P d) fs.toList 0 (P.cellsOf t)
    | some (.array n e) => if n * P.cellsOf e = P.cellsOf t then match scal P d e with
      | some l => some (List.replicate n l).flatten
      | none => none
      else none
    | _ => none
section
variable {H : Type} {enc : TypeId × Value → H} {P : Program} {w : World} {base : Nat} {spare : Nat → Bool} {held : Bool}
theorem trod_float' {k : FloatKind} {fuel : Nat} {t : TypeId} {cs : List Value} {x : DataW H × List MemPlace} (ht : P.underlying t = some (.float k)) (h : DataW.trod enc P w base spare held fuel t cs = some x) : ∃ n, cs = [.float k n] ∧ (Lit.float k n).wf = true := by
  cases fuel with
  | zero => simp [DataW.trod] at h
  | succ n =>
    unfold DataW.trod at h
    rw [ht] at h
    split at h <;> simp_all
theorem scalF_read {rec : TypeId → Option (List Sc)} {n : Nat} (β : Num) (ih : ∀ t ks, rec t = some ks → ∀ cs x, DataW.trod enc P w base spare held n t cs = some x → ∃ xs : List A, cs = xs.map (A.val β) ∧ Fits ks xs) {cs : List Value} :
    ∀ (fs : List Field) (off e : Nat) (ks : List Sc), scalF P rec fs off e = some ks → cs.length = e → (∀ f ∈ fs, ∃ x, DataW.trod enc P w base spare held n f.type ((cs.drop f.offset).take (P.cellsOf f.type)) = some x) →
      ∃ xs : List A, cs.drop off = xs.map (A.val β) ∧ Fits ks xs
  | [], off, e, ks, h, hl, _ => by
    unfold scalF at h
    split at h
    · rename_i he
      injection h with h
      subst h
      exact ⟨[], by rw [List.drop_eq_nil_of_le (by omega)]; rfl, trivial⟩
    · cases h
  | f :: fs, off, e, ks, h, hl, hall => by
    unfold scalF at h
    split at h
    · rename_i ho
      split at h
      · rename_i l r h1 h2
        injection h with h
        subst h
        obtain ⟨x, hx⟩ := hall f (by simp)
        obtain ⟨xs, e1, f1⟩ := ih _ _ h1 _ _ hx
        obtain ⟨ys, e2, f2⟩ := scalF_read β ih fs _ e r h2 hl (fun g hg => hall g (by simp [hg]))
        refine ⟨xs ++ ys, ?_, f1.append f2⟩
        rw [List.map_append, ← e1, ← e2, ho, ← List.drop_drop, List.take_append_drop]
      · cases h
    · cases h
theorem scalA_read {l : List Sc} {n : Nat} {e : TypeId} (β : Num) (ih : ∀ cs x, DataW.trod enc P w base spare held n e cs = some x → ∃ xs : List A, cs = xs.map (A.val β) ∧ Fits l xs) {cs : List Value} :
    ∀ (k i : Nat), cs.length = (i + k) * P.cellsOf e → (∀ j, i ≤ j → j < i + k → ∃ x, DataW.trod enc P w base spare held n e ((cs.drop (j * P.cellsOf e)).take (P.cellsOf e)) = some x) →
      ∃ xs : List A, cs.drop (i * P.cellsOf e) = xs.map (A.val β) ∧ Fits (List.replicate k l).flatten xs
  | 0, i, hl, _ => ⟨[], by rw [List.drop_eq_nil_of_le (by simp [hl])]; rfl, trivial⟩
  | k + 1, i, hl, hall => by
    obtain ⟨x, hx⟩ := hall i (Nat.le_refl _) (by omega)
    obtain ⟨xs, e1, f1⟩ := ih _ _ hx
    obtain ⟨ys, e2, f2⟩ := scalA_read β ih k (i + 1) (by rw [hl]; congr 1; omega) (fun j h1 h2 => hall j (by omega) (by omega))
    refine ⟨xs ++ ys, ?_, ?_⟩
    · rw [List.map_append, ← e1, ← e2, Nat.add_mul, Nat.one_mul, ← List.drop_drop, List.take_append_drop]
    · rw [List.replicate_succ, List.flatten_cons]
      exact f1.append f2
theorem scal_read (β : Num) : ∀ (d : Nat) (t : TypeId) (ks : List Sc), scal P d t = some ks → ∀ (fuel : Nat) (cs : List Value) (x : DataW H × List MemPlace), DataW.trod enc P w base spare held fuel t cs = some x →
    ∃ xs : List A, cs = xs.map (A.val β) ∧ Fits ks xs
  | 0, _, _, h => by cases h
  | d + 1, t, ks, h => by
    intro fuel cs x hx
    simp only [scal] at h
    split at h
    · rename_i hu
      injection h with h; subst h
      obtain ⟨b, rfl, _⟩ := DataW.trod_bool hu hx
      exact ⟨[.bool b], rfl, trivial, trivial⟩
    · rename_i k hu
      injection h with h; subst h
      obtain ⟨n, rfl, _, hw⟩ := DataW.trod_int hu hx
      simp only [Lit.wf, Bool.and_eq_true, decide_eq_true_eq] at hw
      exact ⟨[.int k n], rfl, ⟨rfl, hw.1, hw.2⟩, trivial⟩
    · rename_i k hu
      injection h with h; subst h
      obtain ⟨n, rfl, hw⟩ := trod_float' hu hx
      cases k <;> simp only [Lit.wf, decide_eq_true_eq] at hw
      · exact ⟨[.flt .f32 n], rfl, ⟨rfl, hw⟩, trivial⟩
      · exact ⟨[.flt .f64 n], rfl, ⟨rfl, hw⟩, trivial⟩
    · rename_i hu
      injection h with h; subst h
      obtain ⟨s, rfl, _, hw⟩ := DataW.trod_string hu hx
      exact ⟨[.str s], rfl, hw, trivial⟩
    · rename_i fs hu
      obtain ⟨xs, n, rfl, _, hl, hxl, hall⟩ := DataW.trod_struct hu hx
      obtain ⟨ys, e, f⟩ := scalF_read β (fun t ks hk cs x hx => scal_read β d t ks hk n cs x hx) fs.toList 0 _ ks h hl (fun f hf => by
        obtain ⟨i, hi⟩ := List.getElem?_of_mem hf
        have hi' : fs[i]? = some f := by simpa using hi
        rw [hall i f hi']
        have : i < xs.length := by
          rw [hxl]
          exact (Array.getElem?_eq_some_iff.1 hi').1
        exact ⟨xs[i], by simp [this]⟩)
      exact ⟨ys, by simpa using e, f⟩
    · rename_i n e hu
      split at h
      · rename_i hn
        split at h
        · rename_i l hl'
          injection h with h; subst h
          obtain ⟨xs, m, rfl, _, hl, hxl, hall⟩ := DataW.trod_array hu hx
          obtain ⟨ys, e1, f⟩ := scalA_read (P := P) (w := w) (base := base) (spare := spare) (held := held) (enc := enc) (l := l) (n := m) (e := e) β (fun cs x hx => scal_read β d e l hl' m cs x hx) (cs := cs) n 0 (by rw [hl, ← hn, Nat.zero_add]) (fun j _ hj => by
            rw [hall j (by omega)]
            exact ⟨xs[j], by simp [show j < xs.length by omega]⟩)
          exact ⟨ys, by simpa using e1, f⟩
        · cases h
      · cases h
    · cases h
/-- A slice of such cells: element by element. -/
def IsSl (W : World) (c : Nat) (ks : List Sc) (x : A) (len cap : Nat) (F : Nat → List A) : Prop :=
  (x = .nils ∧ len = 0 ∧ cap = 0) ∨ ∃ p, x = .rslc p len cap ∧ len ≤ cap ∧ cap ≤ maxLen ∧ ∀ i, i < cap → Fits ks (F i) ∧ (F i).length = c ∧ ∀ j y, (F i)[j]? = some y → roOf W (p.add (i * c + j)) y
theorem addr_add_add (p : Addr) (n m : Nat) : (p.add n).add m = p.add (n + m) := by
  unfold Addr.add
  by_cases h : n = 0
  · simp [h]
  · by_cases h' : m = 0
    · simp [h, h']
    · simp [h, h', Nat.add_assoc]
theorem open_sl {d : Nat} {t e : TypeId} {ks : List Sc} (ht : P.underlying t = some (.slice e)) (hk : scal P d e = some ks) {fuel : Nat} {v : Value} {x : DataW H × List MemPlace} (h : DataW.trod enc P w base (fun _ => true) held fuel t v.cells.toList = some x) (hv : ∃ a l c, v = .slice a l c) :
    ∃ y len cap F, v = (V.a y).val (fun _ => none) ∧ IsSl w (P.cellsOf e) ks y len cap F := by
  obtain ⟨a, l, c, rfl⟩ := hv
  have hcs : (Value.slice a l c).cells.toList = [.slice a l c] := rfl
  rw [hcs] at h
  rcases DataW.trod_slice ht h with ⟨h0, _⟩ | ⟨a', len, cap, elems, rest, n, _, h1, _, hb, hl, hm, hlen, hel, hsp, _⟩
  · simp only [List.cons.injEq, Value.slice.injEq, and_true] at h0
    obtain ⟨rfl, rfl, rfl⟩ := h0
    exact ⟨.nils, 0, 0, fun _ => [], rfl, .inl ⟨rfl, rfl, rfl⟩⟩
  · simp only [List.cons.injEq, Value.slice.injEq, and_true] at h1
    obtain ⟨rfl, rfl, rfl⟩ := h1
    have each : ∀ i, i < c → ∃ xs : List A, Fits ks xs ∧ xs.length = P.cellsOf e ∧ ∀ j y, xs[j]? = some y → roOf w (a'.add (i * P.cellsOf e + j)) y := by
      intro i hi
      have hb' : ∃ y, (w.cells? base (a'.add (i * P.cellsOf e)) (P.cellsOf e)).bind (DataW.trod enc P w base (fun _ => true) held n e) = some y := by
        by_cases hi' : i < l
        · rw [hel i hi']
          exact ⟨elems[i]'(by omega), by simp [show i < elems.length by omega]⟩
        · obtain ⟨hrl, hr⟩ := hsp rfl
          have := hr (i - l) (by omega)
          rw [show l + (i - l) = i by omega] at this
          rw [this]
          exact ⟨rest[i - l]'(by omega), by simp [show i - l < rest.length by omega]⟩
      obtain ⟨y, hy⟩ := hb'
      obtain ⟨cs', hcs', hy'⟩ := Option.bind_eq_some_iff.1 hy
      obtain ⟨xs, rfl, hf⟩ := scal_read (fun _ => none) d e ks hk _ _ _ hy'
      obtain ⟨_, hlen', hcell⟩ := World.cells?_some hcs'
      refine ⟨xs, hf, by simpa using hlen', fun j y hj => ?_⟩
      have hjl : j < xs.length := (List.getElem?_eq_some_iff.1 hj).1
      refine ⟨hf.ok y (List.mem_of_getElem? hj), ?_⟩
      have := hcell j (by rw [← hlen', List.length_map]; exact hjl)
      rw [addr_add_add] at this
      rw [this]
      simp [hj]
    classical
    refine ⟨.rslc a' l c, l, c, fun i => if h : i < c then (each i h).choose else [], rfl, .inr ⟨a', rfl, hl, hm, fun i hi => ?_⟩⟩
    simp only [dif_pos hi]
    exact (each i hi).choose_spec
/-- A value of such cells. -/
theorem open_val {d : Nat} {t : TypeId} {ks : List Sc} (hk : scal P d t = some ks) {fuel : Nat} {v : Value} {x : DataW H × List MemPlace} (h : DataW.trod enc P w base spare held fuel t v.cells.toList = some x) :
    ∃ xs : List A, v.cells.toList = xs.map (A.val fun _ => none) ∧ Fits ks xs := scal_read (fun _ => none) d t ks hk _ _ _ h
end
theorem Fits.int {k : IntKind} {ss : List Sc} {xs : List A} (h : Fits (.int k :: ss) xs) : ∃ n ys, xs = .int k n :: ys ∧ (k.min ≤ n ∧ n ≤ k.max) ∧ Fits ss ys := by
  cases xs with
  | nil => exact h.elim
  | cons x ys =>
    obtain ⟨h1, h2⟩ := h
    cases x <;> simp only [Sc.fits] at h1 <;> try exact h1.elim
    obtain ⟨rfl, h3⟩ := h1
    exact ⟨_, ys, rfl, h3, h2⟩
theorem Fits.bool {ss : List Sc} {xs : List A} (h : Fits (.bool :: ss) xs) : ∃ b ys, xs = .bool b :: ys ∧ Fits ss ys := by
  cases xs with
  | nil => exact h.elim
  | cons x ys =>
    obtain ⟨h1, h2⟩ := h
    cases x <;> simp only [Sc.fits] at h1 <;> try exact h1.elim
    exact ⟨_, ys, rfl, h2⟩
theorem Fits.str {ss : List Sc} {xs : List A} (h : Fits (.str :: ss) xs) : ∃ s ys, xs = .str s :: ys ∧ s.size ≤ maxLen ∧ Fits ss ys := by
  cases xs with
  | nil => exact h.elim
  | cons x ys =>
    obtain ⟨h1, h2⟩ := h
    cases x <;> simp only [Sc.fits] at h1 <;> try exact h1.elim
    exact ⟨_, ys, rfl, h1, h2⟩
theorem Fits.nil {xs : List A} (h : Fits [] xs) : xs = [] := by
  cases xs with
  | nil => rfl
  | cons x ys => exact h.elim
theorem IsSl.get {W : World} {c : Nat} {ks : List Sc} {p : Addr} {len cap : Nat} {G : Nat → List A} (h : IsSl W c ks (.rslc p len cap) len cap G) {i : Nat} (hi : i < len) :
    Fits ks (G i) ∧ ∀ j y, (G i)[j]? = some y → roOf W (p.add (i * c + j)) y := by
  rcases h with ⟨h, _⟩ | ⟨q, e, hl, hm, hall⟩
  · cases h
  · injection e with e
    subst e
    obtain ⟨h1, _, h3⟩ := hall i (by omega)
    exact ⟨h1, h3⟩
end Go.Eng
