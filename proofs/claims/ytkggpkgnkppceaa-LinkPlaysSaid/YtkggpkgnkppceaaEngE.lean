/- The engine, part E: how a walk begins, and small rules for use. -/
import Derived.Test.YtkggpkgnkppceaaEngD
import Derived.Below
import Derived.ChangeKeysEq
set_option linter.unusedVariables false
namespace Go.Eng
open Go.RowKit

/-- A function that is handed read-only memory alone: what it tells at the row. -/
theorem Fn.top {P : Program} {ro : Addr → A → Prop} {f : FuncId} {args : List V} {w : World} (hro : RoOK ro (fun _ => none) 0 w) (hargs : ∀ v ∈ args, v.ok 0)
    (h : Fn P ro f args [] (fun v _ => v = .a (.bool true))) : Calls P f (args.map (V.val fun _ => none)).toArray w fun e w' => e = .returned (.bool true) ∧ Below w.heap.size w w' := by
  replace h := h.run
  refine (h (fun _ => none) w (fun v hv => V.fit_of0 (hargs v hv)) ⟨?_, ?_, ?_, ?_, fun _ _ => rfl, Nat.le_refl _, Fr.refl _ _ _, ?_, hro⟩).mono fun e w' ⟨v, H', β', hv, he, _, hm⟩ => ?_
  · intro i j b hi; exact absurd hi (Nat.not_lt_zero _)
  · intro i b o h; simp at h
  · intro i o h; simp at h
  · intro i o h; simp at h
  · intro i b _ hi; exact absurd hi (Nat.not_lt_zero _)
  · subst hv
    refine ⟨he, hm.fr.os, hm.fr.tape, hm.fr.output, hm.fr.size, fun k hk => hm.fr.keep k hk fun i hi => ?_⟩
    exact absurd hi (Nat.not_lt_zero _)
theorem RoOK.none (β0 : Num) (n0 : Nat) (w : World) : RoOK (fun _ _ => False) β0 n0 w := ⟨fun _ _ h => h.elim, fun _ _ h => h.elim, fun _ _ h => h.elim, fun _ _ h => h.elim⟩
theorem Fn.mono {P : Program} {ro : Addr → A → Prop} {f : FuncId} {args : List V} {H : Hp} {K K' : V → Hp → Prop} (h : Fn P ro f args H K) (hk : ∀ v H', K v H' → K' v H') : Fn P ro f args H K' := by
  replace h := h.run
  refine ⟨fun β w hok hw => ?_⟩
  exact (h β w hok hw).mono fun e w' ⟨v, H', β', hv, he, hvo, hm⟩ => ⟨v, H', β', hk v H' hv, he, hvo, hm⟩
theorem Into.mono {n0 : Nat} {F : Frm} {H : Hp} {I J : Frm → Hp → Prop} (h : Into n0 F H I) (hJ : ∀ F H, I F H → J F H) : Into n0 F H J := by
  replace h : IntoI n0 I F H := h
  show IntoI n0 J F H
  induction h with
  | sub h hj => exact .sub h (hJ _ _ hj)
  | weak h hj => exact .weak h (hJ _ _ hj)
  | gho h _ ih => exact .gho h ih
/-- Ways are joined: what is known of slots and blocks, and the walk from there. -/
theorem cutx_of {n0 : Nat} {F : Frm} {H : Hp} {J : Frm → Hp → Prop} (I : Frm → Hp → Prop) (h : Into n0 F H I) (hJ : ∀ F H, I F H → J F H) : cutx n0 F H J := ⟨h.mono hJ⟩
theorem loopx_of {n0 : Nat} {body : Frm → Hp → (Exit → Frm → Hp → Prop) → Prop} {F : Frm} {H : Hp} {Q : Exit → Frm → Hp → Prop} (I : Nat → Frm → Hp → Prop) (n : Nat) (h0 : Into n0 F H (I n))
    (h : ∀ n F H, I n F H → body F H (fun e F' H' => match e with
      | .normal => ∃ m, m < n ∧ Into n0 F' H' (I m)
      | e => Q e F' H')) : loopx n0 body F H Q := by
  exact ⟨⟨0, I, n, h0, h⟩⟩
theorem loopx_iter {n0 : Nat} {body : Frm → Hp → (Exit → Frm → Hp → Prop) → Prop} {F : Frm} {H : Hp} {Q : Exit → Frm → Hp → Prop} (k : Nat) (h : iterx n0 body Q k F H) : loopx n0 body F H Q := by
  exact ⟨⟨k, h⟩⟩

/-! ### '==' of structs and arrays, worked out part by part. -/
def partO (P : Program) (t : TypeId) (cs : List A) (off : Nat) : Option V :=
  match aggOf P t, P.info? t with
  | some false, _ => match cs[off]? with
    | some x => some (.a x)
    | none => none
  | some true, some i => some (.g ((cs.take (off + i.size)).drop off))
  | _, _ => none
theorem partO_part {P : Program} {t : TypeId} {cs : List A} {off : Nat} {v : V} (h : partO P t cs off = some v) (β : Num) (w : World) :
    (part t (cs.map (A.val β)).toArray off).run P w = .ok (v.val β) w := by
  have hp : partx P t cs off (fun u => u = v) := by
    unfold partO at h
    unfold partx
    split at h
    · rename_i ht
      split at h
      · rename_i x hx
        simp only [Option.some.injEq] at h
        simp [optx, hx, h, ht]
      · cases h
    · rename_i q ht hq
      simp only [Option.some.injEq] at h
      simp [ht, hq, h]
    · cases h
  obtain ⟨u, hu, hr⟩ := partx_sound hp
  subst hu
  unfold partO at h
  split at h
  · rename_i ht
    split at h
    · rename_i x hx
      simp only [Option.some.injEq] at h
      subst h
      simp [part, aggOf_sound ht, hx, V.val_a]
    · cases h
  · rename_i q ht hq
    simp only [Option.some.injEq] at h
    subst h
    simp [part, aggOf_sound ht, sizeOf, typeInfo, hq, V.val, List.map_take, List.map_drop, List.drop_take]
  · cases h
def andO : Option Bool → Option Bool → Option Bool
  | some a, some b => some (a && b)
  | _, _ => none
def eqFl (P : Program) (rec : TypeId → V → V → Option Bool) (xs ys : List A) : List Field → Option Bool
  | [] => some true
  | f :: fs => match f.name != "_" with
    | true => match partO P f.type xs f.offset, partO P f.type ys f.offset with
      | some a, some b => andO (rec f.type a b) (eqFl P rec xs ys fs)
      | _, _ => none
    | false => eqFl P rec xs ys fs
def eqIt (P : Program) (rec : TypeId → V → V → Option Bool) (e : TypeId) (c : Nat) (xs ys : List A) : List Nat → Option Bool
  | [] => some true
  | i :: is => match partO P e xs (i * c), partO P e ys (i * c) with
    | some a, some b => andO (rec e a b) (eqIt P rec e c xs ys is)
    | _, _ => none
def eqS (P : Program) (t : TypeId) (x y : A) : Option Bool := match P.underlying t, x, y with
  | some (.int _), .int k a, .int k' b => if k = k' then some (decide (a = b)) else none
  | some .string, .str a, .str b => some (a.data.toList == b.data.toList)
  | _, x, y => eqAtom P t x y
def eqD (P : Program) : Nat → TypeId → V → V → Option Bool
  | 0, _, _, _ => none
  | d + 1, t, .a x, .a y => eqS P t x y
  | d + 1, t, .g xs, .g ys => match P.underlying t with
    | some (.struct fs) => match P.stoodInHeld t with
      | true => none
      | false => eqFl P (eqD P d) xs ys fs.toList
    | some (.array n e) => match P.info? e with
      | some i => eqIt P (eqD P d) e i.size xs ys (List.range n)
      | none => none
    | _ => none
  | _, _, _, _ => none
theorem partO_gh {P : Program} {t : TypeId} {cs : List A} {off : Nat} {v : V} (h : partO P t cs off = some v) {β : Num} (hg : ∀ x ∈ cs, x.gh β) : v.gh β := by
  unfold partO at h
  split at h
  · split at h
    · rename_i x hx
      simp only [Option.some.injEq] at h
      subst h
      exact hg x (List.mem_of_getElem? hx)
    · cases h
  · simp only [Option.some.injEq] at h
    subst h
    exact fun x hx => hg x (List.mem_of_mem_take (List.mem_of_mem_drop hx))
  · cases h
theorem andO_some {x y : Option Bool} {b : Bool} (h : andO x y = some b) : ∃ p q, x = some p ∧ y = some q ∧ b = (p && q) := by
  cases x <;> cases y <;> simp_all [andO]
theorem eqS_sound {P : Program} {t : TypeId} {x y : A} {b : Bool} (h : eqS P t x y = some b) (β : Num) (w : World) (d : Nat) (gx : x.gh β) (gy : y.gh β) :
    (Op.equalIn (d + 1) t (x.val β) (y.val β)).run P w = .ok b w := by
  unfold eqS at h
  split at h
  · rename_i k0 k a k' c hu
    split at h
    · rename_i hk
      subst hk
      simp only [Option.some.injEq] at h
      subst h
      rw [A.val, A.val, run_equalIn_int w d t k k0 a c hu]
      rfl
    · cases h
  · rename_i a c hu
    simp only [Option.some.injEq] at h
    subst h
    rw [A.val, A.val, run_equalIn_string w d t a c hu, Go.ByteArray.toList_eq, Go.ByteArray.toList_eq]
  · exact eqAtom_in h β w d gx gy
theorem eqFl_sound {P : Program} {rec : TypeId → V → V → Option Bool} {d : Nat} (ih : ∀ t x y b, rec t x y = some b → ∀ (β : Num) (w : World), x.gh β → y.gh β → (Op.equalIn d t (x.val β) (y.val β)).run P w = .ok b w)
    {xs ys : List A} (β : Num) (w : World) (gx : ∀ x ∈ xs, x.gh β) (gy : ∀ y ∈ ys, y.gh β) : ∀ (fs : List Field) {b : Bool}, eqFl P rec xs ys fs = some b → (Op.eqFields d (xs.map (A.val β)).toArray (ys.map (A.val β)).toArray fs).run P w = .ok b w
  | [], b, h => by
    simp only [eqFl, Option.some.injEq] at h
    subst h
    simp [Op.eqFields]
  | f :: fs, b, h => by
    unfold eqFl at h
    split at h
    · rename_i hn
      have hn' : f.name ≠ "_" := by simpa using hn
      split at h
      · rename_i x y hx hy
        obtain ⟨p, q, hp, hq, rfl⟩ := andO_some h
        have h1 := ih _ _ _ _ hp β w (partO_gh hx gx) (partO_gh hy gy)
        have h2 := eqFl_sound ih β w gx gy fs hq
        simp only [Op.eqFields, hn', ne_eq, not_false_eq_true, if_true, Sem.run_bind, partO_part hx, partO_part hy, Result.andThen_ok, h1]
        cases p
        · simp
        · simpa using h2
      · cases h
    · rename_i hn
      have hn' : ¬ f.name ≠ "_" := by simpa using hn
      simp only [Op.eqFields, if_neg hn']
      exact eqFl_sound ih β w gx gy fs h
theorem eqIt_sound {P : Program} {rec : TypeId → V → V → Option Bool} {d : Nat} (ih : ∀ t x y b, rec t x y = some b → ∀ (β : Num) (w : World), x.gh β → y.gh β → (Op.equalIn d t (x.val β) (y.val β)).run P w = .ok b w)
    {e : TypeId} {c : Nat} {xs ys : List A} (β : Num) (w : World) (gx : ∀ x ∈ xs, x.gh β) (gy : ∀ y ∈ ys, y.gh β) : ∀ (is : List Nat) {b : Bool}, eqIt P rec e c xs ys is = some b → (Op.eqItems d e c (xs.map (A.val β)).toArray (ys.map (A.val β)).toArray is).run P w = .ok b w
  | [], b, h => by
    simp only [eqIt, Option.some.injEq] at h
    subst h
    simp [Op.eqItems]
  | i :: is, b, h => by
    unfold eqIt at h
    split at h
    · rename_i x y hx hy
      obtain ⟨p, q, hp, hq, rfl⟩ := andO_some h
      have h1 := ih _ _ _ _ hp β w (partO_gh hx gx) (partO_gh hy gy)
      have h2 := eqIt_sound ih β w gx gy is hq
      simp only [Op.eqItems, Sem.run_bind, partO_part hx, partO_part hy, Result.andThen_ok, h1]
      cases p
      · simp
      · simpa using h2
    · cases h
theorem eqD_sound {P : Program} : ∀ (k : Nat) (t : TypeId) (x y : V) (b : Bool), eqD P k t x y = some b → ∀ (d : Nat) (β : Num) (w : World), x.gh β → y.gh β → (Op.equalIn (d + k) t (x.val β) (y.val β)).run P w = .ok b w
  | 0, _, _, _, _, h => by simp [eqD] at h
  | k + 1, t, x, y, b, h => by
    intro d β w gx gy
    cases x with
    | a x =>
      cases y with
      | a y => exact eqS_sound (show eqS P t x y = some b from h) β w (d + k) gx gy
      | _ => simp [eqD] at h
    | g xs =>
      cases y with
      | g ys =>
        have ih : ∀ t x y b, eqD P k t x y = some b → ∀ (β : Num) (w : World), x.gh β → y.gh β → (Op.equalIn (d + k) t (x.val β) (y.val β)).run P w = .ok b w := fun t x y b hb β w gx gy => eqD_sound k t x y b hb d β w gx gy
        simp only [eqD] at h
        split at h
        · rename_i fs hu
          split at h
          · cases h
          · rename_i hs
            have hf : P.fieldsOf t = fs := by simp [Program.fieldsOf, hu]
            rw [← hf] at hu h
            show (Op.equalIn ((d + k) + 1) t _ _).run P w = _
            simp only [V.val]
            rw [run_equalIn_struct w (d + k) t _ _ hu hs]
            exact eqFl_sound ih β w gx gy _ h
        · rename_i n e hu
          split at h
          · rename_i i hi
            show (Op.equalIn ((d + k) + 1) t _ _).run P w = _
            simp only [V.val]
            rw [run_equalIn_array w (d + k) _ _ hu hi]
            have hc : P.cellsOf e = i.size := by simp [Program.cellsOf, hi]
            rw [hc]
            exact eqIt_sound ih β w gx gy _ h
          · cases h
        · cases h
      | _ => simp [eqD] at h
    | t xs => simp [eqD] at h
theorem EqAgg.of {P : Program} {t : TypeId} {xs ys : List A} {b : Bool} (h : eqD P 12 t (.g xs) (.g ys) = some b) : EqAgg P t xs ys b := fun β w gx gy => eqD_sound 12 t _ _ b h 9988 β w gx gy

/-! ### The head of a loop: fewer slots, fewer blocks, worked out. -/
def A.okb (n : Nat) : A → Bool
  | .ptr i _ => Nat.blt i n
  | .slc i _ _ _ => Nat.blt i n
  | .clo _ caps => caps.all fun q => Nat.blt q.1 n
  | .ifc _ x => x.okb n
  | _ => true
theorem A.okb_sound {n : Nat} : ∀ {x : A}, x.okb n = true → x.ok n := by
  intro x
  induction x with
  | ptr i o => intro h; simpa [A.okb, A.ok] using h
  | slc i o l c => intro h; simpa [A.okb, A.ok] using h
  | clo f caps => intro h; simpa [A.okb, A.ok] using h
  | ifc t x ih => intro h; exact ih h
  | _ => intro _; trivial
def E.okb (n : Nat) : E → Bool
  | .a x => x.okb n
  | .g cs => cs.all (A.okb n)
def V.okb (n : Nat) : V → Bool
  | .a x => x.okb n
  | .g cs => cs.all (A.okb n)
  | .t xs => xs.all (E.okb n)
def Ob.okb (n : Nat) : Ob → Bool
  | .cells cs _ _ => cs.all (A.okb n)
  | .iter _ _ => true
theorem all_okb {n : Nat} {cs : List A} (h : cs.all (A.okb n) = true) : ∀ x ∈ cs, x.ok n := fun x hx => A.okb_sound (List.all_eq_true.1 h x hx)
theorem E.okb_sound {n : Nat} {x : E} (h : x.okb n = true) : x.ok n := by
  cases x with
  | a x => exact A.okb_sound h
  | g cs => exact all_okb h
theorem V.okb_sound {n : Nat} {v : V} (h : v.okb n = true) : v.ok n := by
  cases v with
  | a x => exact A.okb_sound h
  | g cs => exact all_okb h
  | t xs => exact fun x hx => E.okb_sound (List.all_eq_true.1 h x hx)
theorem Ob.okb_sound {n : Nat} {o : Ob} (h : o.okb n = true) : o.ok n := by
  cases o with
  | cells cs ty mk => exact all_okb h
  | iter s p => trivial
def SubR (δ : Nat → Nat) : Frm → Frm → Prop
  | [], _ => True
  | (i, v) :: l, F => look F i = some (v.ren δ) ∧ SubR δ l F
def Blks (δ : Nat → Nat) (H : Hp) : Nat → Hp → Prop
  | _, [] => True
  | k, o :: l => H[δ k]? = some (o.ren δ) ∧ Blks δ H (k + 1) l
def frmOk (n : Nat) : Frm → Bool
  | [] => true
  | (_, v) :: l => v.okb n && frmOk n l
def dsOf (ds : List Nat) (i : Nat) : Nat := match ds[i]? with
  | some x => x
  | none => 0
def nodupb : List Nat → Bool
  | [] => true
  | x :: l => l.all (fun y => !(Nat.beq x y)) && nodupb l
def baseb (ds : List Nat) : Nat → Bool
  | 0 => true
  | k + 1 => (match ds[k]? with
    | some x => Nat.beq x k
    | none => false) && baseb ds k
theorem SubR.look : ∀ {F₀ F : Frm} {δ : Nat → Nat}, SubR δ F₀ F → ∀ i v, look F₀ i = some v → look F i = some (v.ren δ)
  | [], _, _, _, _, _, h => by cases h
  | (j, u) :: l, F, δ, hs, i, v, h => by
    unfold Eng.look at h
    split at h
    · rename_i he
      have : j = i := by simpa using he
      subst this
      injection h with h
      subst h
      exact hs.1
    · exact SubR.look hs.2 i v h
theorem Blks.get {δ : Nat → Nat} {H : Hp} : ∀ {k : Nat} {H₀ : Hp}, Blks δ H k H₀ → ∀ (i : Nat) (o : Ob), H₀[i]? = some o → H[δ (k + i)]? = some (o.ren δ)
  | _, [], _, _, _, h => by simp at h
  | k, u :: l, hb, 0, o, h => by
    simp only [List.getElem?_cons_zero, Option.some.injEq] at h
    subst h
    exact hb.1
  | k, u :: l, hb, i + 1, o, h => by
    have := Blks.get hb.2 i o (by simpa using h)
    rw [show k + (i + 1) = k + 1 + i by omega]
    exact this
theorem frmOk_sound {n : Nat} : ∀ {F : Frm}, frmOk n F = true → ∀ i v, look F i = some v → v.ok n
  | [], _, _, _, h => by cases h
  | (j, u) :: l, ho, i, v, h => by
    simp only [frmOk, Bool.and_eq_true] at ho
    unfold Eng.look at h
    split at h
    · injection h with h
      subst h
      exact V.okb_sound ho.1
    · exact frmOk_sound ho.2 i v h
theorem nodupb_sound : ∀ {l : List Nat}, nodupb l = true → ∀ (i j x : Nat), l[i]? = some x → l[j]? = some x → i = j
  | [], _, i, j, x, h, _ => by simp at h
  | y :: l, hn, i, j, x, hi, hj => by
    simp only [nodupb, Bool.and_eq_true, List.all_eq_true, Bool.not_eq_true'] at hn
    have no : ∀ k, l[k]? = some y → False := fun k hk => by
      have := hn.1 y (List.mem_of_getElem? hk)
      simp at this
    cases i with
    | zero =>
      simp only [List.getElem?_cons_zero, Option.some.injEq] at hi
      subst hi
      cases j with
      | zero => rfl
      | succ j => exact (no j (by simpa using hj)).elim
    | succ i =>
      cases j with
      | zero =>
        simp only [List.getElem?_cons_zero, Option.some.injEq] at hj
        subst hj
        exact (no i (by simpa using hi)).elim
      | succ j => rw [nodupb_sound hn.2 i j x (by simpa using hi) (by simpa using hj)]
theorem baseb_sound {ds : List Nat} : ∀ {k : Nat}, baseb ds k = true → ∀ i, i < k → dsOf ds i = i
  | 0, _, i, h => absurd h (Nat.not_lt_zero _)
  | k + 1, hb, i, hi => by
    simp only [baseb, Bool.and_eq_true] at hb
    by_cases e : i = k
    · subst e
      unfold dsOf
      cases hx : ds[i]? with
      | none => simp [hx] at hb
      | some x =>
        have h1 := hb.1
        simp only [hx] at h1
        exact Nat.eq_of_beq_eq_true h1
    · exact baseb_sound hb.2 i (by omega)
/-- At the head of a loop the frame has these slots, the heap these blocks (in the places 'ds'). -/
theorem Into.weak {n0 : Nat} {F : Frm} {H : Hp} {J : Frm → Hp → Prop} (ds : List Nat) (F₀ : Frm) (H₀ : Hp) (hj : J F₀ H₀) (hs : SubR (dsOf ds) F₀ F) (hb : Blks (dsOf ds) H 0 H₀)
    (hc : (Nat.ble n0 H₀.length && Nat.beq ds.length H₀.length && nodupb ds && baseb ds n0 && frmOk H₀.length F₀ && H₀.all (Ob.okb H₀.length)) = true) : Into n0 F H J := by
  simp only [Bool.and_eq_true] at hc
  obtain ⟨⟨⟨⟨⟨h1, h2⟩, h3⟩, h4⟩, h5⟩, h6⟩ := hc
  have hl : ds.length = H₀.length := Nat.eq_of_beq_eq_true h2
  refine IntoI.weak (F₀ := F₀) (H₀ := H₀) (δ := dsOf ds) ⟨fun i v h => hs.look i v h, fun i o h => by simpa using hb.get i o h, fun i j hi hj' e => ?_, fun i hi => baseb_sound h4 i hi, Nat.le_of_ble_eq_true h1, fun i v h => frmOk_sound h5 i v h, fun i o h => Ob.okb_sound (List.all_eq_true.1 h6 o (List.mem_of_getElem? h))⟩ hj
  have hi' : i < ds.length := by omega
  have hj'' : j < ds.length := by omega
  have e1 : dsOf ds i = ds[i] := by simp [dsOf, hi']
  have e2 : dsOf ds j = ds[j] := by simp [dsOf, hj'']
  exact nodupb_sound h3 i j ds[i] (by simp [hi']) (by rw [← e1, e, e2]; simp [hj''])
/-- Hints for regions that draw their order: of which calls it is said that they but grow the heap. -/
def gOf : List (Nat × List Nat × List (Nat × Nat)) → Hints
  | [], _ => ([], [])
  | (k, l) :: r, i => match Nat.beq k i with
    | true => l
    | false => gOf r i
/-- The regions of these numbers are cuts. -/
def cutAt (l : List Nat) (g : Hints) (i : Nat) : List Nat × List (Nat × Nat) := match l with
  | [] => g i
  | k :: l => match Nat.beq k i with
    | true => ([1], [])
    | false => cutAt l g i
theorem condx_pos {b : Bool} {T E : Prop} (h : b = true) (k : T) : condx b T E := by subst h; exact k
theorem condx_neg {b : Bool} {T E : Prop} (h : b = false) (k : E) : condx b T E := by subst h; exact k
theorem growx_true {H H' t : Hp} {K : Prop} (h : H ++ t = H') (k : K) : H <+: H' ∧ K := ⟨⟨t, h⟩, k⟩
theorem weakOf {n0 : Nat} {H H₀ : Hp} {F₀ F : Frm} (ds : List Nat) (hs : SubR (dsOf ds) F₀ F) (hb : Blks (dsOf ds) H 0 H₀)
    (hc : (Nat.ble n0 H₀.length && Nat.beq ds.length H₀.length && nodupb ds && baseb ds n0 && frmOk H₀.length F₀ && H₀.all (Ob.okb H₀.length)) = true) : Weak n0 (dsOf ds) F H F₀ H₀ := by
  simp only [Bool.and_eq_true] at hc
  obtain ⟨⟨⟨⟨⟨h1, h2⟩, h3⟩, h4⟩, h5⟩, h6⟩ := hc
  have hl : ds.length = H₀.length := Nat.eq_of_beq_eq_true h2
  refine ⟨fun i v h => hs.look i v h, fun i o h => by simpa using hb.get i o h, fun i j hi hj' e => ?_, fun i hi => baseb_sound h4 i hi, Nat.le_of_ble_eq_true h1, fun i v h => frmOk_sound h5 i v h, fun i o h => Ob.okb_sound (List.all_eq_true.1 h6 o (List.mem_of_getElem? h))⟩
  have hi' : i < ds.length := by omega
  have hj'' : j < ds.length := by omega
  have e1 : dsOf ds i = ds[i] := by simp [dsOf, hi']
  have e2 : dsOf ds j = ds[j] := by simp [dsOf, hj'']
  exact nodupb_sound h3 i j ds[i] (by simp [hi']) (by rw [← e1, e, e2]; simp [hj''])
/-- What a function hands back, on fewer blocks. -/
theorem Fn.weak {P : Program} {ro : Addr → A → Prop} {f : FuncId} {args : List V} {H : Hp} {K : V → Hp → Prop}
    (h : Fn P ro f args H (fun v H' => ∃ v₀ H₀ ds, v = v₀.ren (dsOf ds) ∧ Blks (dsOf ds) H' 0 H₀ ∧
      (Nat.ble H.length H₀.length && Nat.beq ds.length H₀.length && nodupb ds && baseb ds H.length && frmOk H₀.length [(0, v₀)] && H₀.all (Ob.okb H₀.length)) = true ∧ K v₀ H₀)) : Fn P ro f args H K := by
  replace h := h.run
  refine ⟨fun β w hok hw => ?_⟩
  refine (h β w hok hw).mono fun e w' ⟨v, H', β', ⟨v₀, H₀, ds, hv, hb, hc, hk⟩, he, hvo, hm⟩ => ?_
  have wk : Weak H.length (dsOf ds) [(0, v)] H' [(0, v₀)] H₀ := weakOf ds ⟨by rw [hv]; rfl, trivial⟩ hb hc
  have hs := hm.sat
  have hlt : ∀ k, k < H₀.length → dsOf ds k < H'.length := fun k hk' => hs.lenOf (wk.blk k H₀[k] (by simp [hk']))
  have hge : ∀ i, H.length ≤ i → i < H₀.length → H.length ≤ dsOf ds i := fun i hi hl => by
    rcases Nat.lt_or_ge (dsOf ds i) H.length with h' | h'
    · have e := wk.base (dsOf ds i) h'
      have := wk.inj (dsOf ds i) i (Nat.lt_of_lt_of_le h' wk.n0) hl e
      omega
    · exact h'
  refine ⟨v₀, H₀, fun i => β' (dsOf ds i), hk, ?_, ?_, ?_⟩
  · rw [he, hv, V.ren_val]
  · refine ⟨wk.fok 0 v₀ (by simp [look]), V.ren_gh (β := β') (δ := dsOf ds) ?_⟩
    rw [← hv]; exact hvo.2
  · refine ⟨⟨?_, ?_, ?_, ?_, ?_, wk.n0, hs.fr, ?_, hs.ro⟩, ?_, wk.n0, hm.fr, ?_⟩
    · intro i j b hi hj' e e'
      exact wk.inj i j hi hj' (hs.inj _ _ b (hlt i hi) (hlt j hj') e e')
    · intro i b o ho e
      rw [← Ob.ren_obj]
      exact hs.blk _ b _ (wk.blk i o ho) e
    · intro i o ho e
      exact Ob.ren_bare (hs.bare _ _ (wk.blk i o ho) e)
    · intro i o ho
      exact ⟨wk.hok i o ho, Ob.ren_gh (hs.ok _ _ (wk.blk i o ho)).2⟩
    · intro i hi
      show β' (dsOf ds i) = _
      rw [wk.base i hi]
      exact hs.base i hi
    · intro i b hi hl e
      exact hs.new (dsOf ds i) b (hge i hi hl) (hlt i hl) e
    · intro i hi
      show β' (dsOf ds i) = _
      rw [wk.base i hi]
      exact hm.agree i hi
    · intro i b hi hl e
      exact hm.new (dsOf ds i) b (hge i hi hl) (hlt i hl) e
/-! ### Nil slices as empty rows. -/
def SubU (k : Nat) : Frm → Frm → Prop
  | [], _ => True
  | (i, v) :: l, F => look F i = some (v.ung k) ∧ SubU k l F
def BlkU (k : Nat) : Hp → Hp → Prop
  | [], [] => True
  | [], o :: l => o.bare ∧ BlkU k [] l
  | o :: l, o₁ :: l₁ => o = o₁.ung k ∧ BlkU k l l₁
  | _ :: _, [] => False
theorem SubU.look : ∀ {F₁ F : Frm} {k : Nat}, SubU k F₁ F → ∀ i v, look F₁ i = some v → look F i = some (v.ung k)
  | [], _, _, _, _, _, h => by cases h
  | (j, u) :: l, F, k, hs, i, v, h => by
    unfold Eng.look at h
    split at h
    · rename_i he
      have : j = i := by simpa using he
      subst this
      injection h with h
      subst h
      exact hs.1
    · exact SubU.look hs.2 i v h
theorem BlkU.sound {k : Nat} : ∀ {H H₁ : Hp}, BlkU k H H₁ → H.length ≤ H₁.length ∧ (∀ (i : Nat) (o : Ob), i < H.length → H₁[i]? = some o → H[i]? = some (o.ung k)) ∧ ∀ (i : Nat) (o : Ob), H.length ≤ i → H₁[i]? = some o → o.bare
  | [], [], _ => ⟨Nat.le_refl _, fun i o h => absurd h (Nat.not_lt_zero _), fun i o _ h => by simp at h⟩
  | [], o :: l, h => by
    obtain ⟨_, _, h3⟩ := BlkU.sound (H := []) h.2
    refine ⟨Nat.zero_le _, fun i o h => absurd h (Nat.not_lt_zero _), fun i q _ hq => ?_⟩
    cases i with
    | zero => simp only [List.getElem?_cons_zero, Option.some.injEq] at hq; subst hq; exact h.1
    | succ i => exact h3 i q (Nat.zero_le _) (by simpa using hq)
  | o :: l, o₁ :: l₁, h => by
    obtain ⟨h1, h2, h3⟩ := BlkU.sound h.2
    refine ⟨by simpa using h1, fun i q hi hq => ?_, fun i q hi hq => ?_⟩
    · cases i with
      | zero => simp only [List.getElem?_cons_zero, Option.some.injEq] at hq; subst hq; simp [h.1]
      | succ i => simpa using h2 i q (by simpa using hi) (by simpa using hq)
    · cases i with
      | zero => simp at hi
      | succ i => exact h3 i q (by simpa using hi) (by simpa using hq)
  | _ :: _, [], h => h.elim
theorem ghoOf {F F₁ : Frm} {H H₁ : Hp} {k : Nat} (hk : H.length = k) (hs : SubU k F₁ F) (hb : BlkU k H H₁)
    (hc : (frmOk H₁.length F₁ && H₁.all (Ob.okb H₁.length)) = true) : Gho F H F₁ H₁ := by
  subst hk
  simp only [Bool.and_eq_true] at hc
  obtain ⟨h1, h2, h3⟩ := hb.sound
  exact ⟨h1, h2, h3, fun i v h => hs.look i v h, fun i v h => frmOk_sound hc.1 i v h, fun i o h => Ob.okb_sound (List.all_eq_true.1 hc.2 o (List.mem_of_getElem? h))⟩
/-- Nil slices become empty rows, in blocks behind the others (k: how many there were). -/
theorem Into.ghost {n0 : Nat} {F : Frm} {H : Hp} {J : Frm → Hp → Prop} (k : Nat) (F₁ : Frm) (H₁ : Hp) (hk : H.length = k) (hs : SubU k F₁ F) (hb : BlkU k H H₁)
    (hc : (frmOk H₁.length F₁ && H₁.all (Ob.okb H₁.length)) = true) (h : Into n0 F₁ H₁ J) : Into n0 F H J := IntoI.gho (ghoOf hk hs hb hc) h
/-- The same of what a function hands back. -/
theorem Fn.ghost {P : Program} {ro : Addr → A → Prop} {f : FuncId} {args : List V} {H : Hp} {K : V → Hp → Prop}
    (h : Fn P ro f args H (fun v H' => ∃ k v₁ H₁, H'.length = k ∧ v = v₁.ung k ∧ BlkU k H' H₁ ∧ (frmOk H₁.length [(0, v₁)] && H₁.all (Ob.okb H₁.length)) = true ∧ K v₁ H₁)) : Fn P ro f args H K := by
  replace h := h.run
  refine ⟨fun β w hok hw => ?_⟩
  refine (h β w hok hw).mono fun e w' ⟨v, H', β', ⟨k, v₁, H₁, hk, hv, hb, hc, hK⟩, he, hvo, hm⟩ => ?_
  have g : Gho [(0, v)] H' [(0, v₁)] H₁ := ghoOf hk ⟨by rw [hv]; rfl, trivial⟩ hb hc
  subst hk
  have hvo' : (v₁.ung H'.length).fit β' H'.length := by rw [← hv]; exact hvo
  obtain ⟨s1, s2⟩ := V.ung_sound hvo'
  refine ⟨v₁, H₁, upto β' H'.length, hK, ?_, ⟨g.fok 0 v₁ (by simp [look]), s1⟩, ⟨g.wsat hm.sat, fun i hi => ?_, Nat.le_trans hm.len g.len, hm.fr, fun i b h1 h2 e => ?_⟩⟩
  · rw [he, hv, s2]
  · rw [upto_lt (Nat.lt_of_lt_of_le hi hm.len)]; exact hm.agree i hi
  · rcases Nat.lt_or_ge i H'.length with h' | h'
    · rw [upto_lt h'] at e; exact hm.new i b h1 h' e
    · rw [upto_ge h'] at e; cases e
/-- Rows that stay whatever the numbers are. -/
theorem ung_of_ren {x : A} (h : ∀ δ, x.ren δ = x) (k : Nat) : x.ung k = x := by
  induction x with
  | slc i o l c =>
    have := h (fun _ => i + 1)
    simp [A.ren] at this
  | ifc t x ih =>
    simp only [A.ung]
    rw [ih fun δ => by have := h δ; simpa [A.ren] using this]
  | _ => rfl
theorem ung_row {cs : List A} (h : ∀ δ, cs.map (A.ren δ) = cs) (k : Nat) : cs.map (A.ung k) = cs := by
  have h' : ∀ x ∈ cs, ∀ δ, x.ren δ = x := fun x hx δ => by
    obtain ⟨i, hi⟩ := List.getElem?_of_mem hx
    have e : (cs.map (A.ren δ))[i]? = some (x.ren δ) := by rw [List.getElem?_map, hi]; rfl
    rw [h δ, hi] at e
    exact (Option.some.inj e).symm
  exact (List.map_congr_left fun x hx => ung_of_ren (h' x hx) k).trans (List.map_id cs)
end Go.Eng
