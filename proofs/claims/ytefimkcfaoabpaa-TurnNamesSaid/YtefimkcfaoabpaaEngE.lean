/- The engine, part E: how a walk begins, and small rules for use. -/
import Derived.Test.YtefimkcfaoabpaaEngD
import Derived.Below
import Derived.ChangeKeysEq
set_option linter.unusedVariables false
namespace Go.Eng
open Go.RowKit

/-- A function that is handed read-only memory alone: what it tells at the row. -/
theorem Fn.top {P : Program} {ro : Addr → A → Prop} {f : FuncId} {args : List V} {w : World} (hro : RoOK ro (fun _ => 0) 0 w) (hargs : ∀ v ∈ args, v.ok 0)
    (h : Fn P ro f args [] (fun v _ => v = .a (.bool true))) : Calls P f (args.map (V.val fun _ => 0)).toArray w fun e w' => e = .returned (.bool true) ∧ Below w.heap.size w w' := by
  unfold Fn at h
  refine (h (fun _ => 0) w hargs ⟨?_, ?_, ?_, fun _ _ => rfl, Nat.le_refl _, Fr.refl _ _ _, ?_, hro⟩).mono fun e w' ⟨v, H', β', hv, he, _, hm⟩ => ?_
  · intro i j hi; exact absurd hi (Nat.not_lt_zero _)
  · intro i o h; simp at h
  · intro i o h; simp at h
  · intro i _ hi; exact absurd hi (Nat.not_lt_zero _)
  · subst hv
    refine ⟨he, hm.fr.os, hm.fr.tape, hm.fr.output, hm.fr.size, fun k hk => hm.fr.keep k hk fun i hi => ?_⟩
    exact absurd hi (Nat.not_lt_zero _)
theorem RoOK.none (β0 : Nat → Nat) (n0 : Nat) (w : World) : RoOK (fun _ _ => False) β0 n0 w := ⟨fun _ _ h => h.elim, fun _ _ h => h.elim, fun _ _ h => h.elim, fun _ _ h => h.elim⟩
theorem Fn.mono {P : Program} {ro : Addr → A → Prop} {f : FuncId} {args : List V} {H : Hp} {K K' : V → Hp → Prop} (h : Fn P ro f args H K) (hk : ∀ v H', K v H' → K' v H') : Fn P ro f args H K' := by
  unfold Fn at h ⊢
  intro β w hok hw
  exact (h β w hok hw).mono fun e w' ⟨v, H', β', hv, he, hvo, hm⟩ => ⟨v, H', β', hk v H' hv, he, hvo, hm⟩
theorem loopx_of {n0 : Nat} {body : Frm → Hp → (Exit → Frm → Hp → Prop) → Prop} {F : Frm} {H : Hp} {Q : Exit → Frm → Hp → Prop} (I : Nat → Frm → Hp → Prop) (n : Nat) (h0 : Into n0 F H (I n))
    (h : ∀ n F H, I n F H → body F H (fun e F' H' => match e with
      | .normal => ∃ m, m < n ∧ Into n0 F' H' (I m)
      | e => Q e F' H')) : loopx n0 body F H Q := by
  unfold loopx
  exact ⟨0, I, n, h0, h⟩
theorem loopx_iter {n0 : Nat} {body : Frm → Hp → (Exit → Frm → Hp → Prop) → Prop} {F : Frm} {H : Hp} {Q : Exit → Frm → Hp → Prop} (k : Nat) (h : iterx n0 body Q k F H) : loopx n0 body F H Q := by
  unfold loopx
  exact ⟨k, h⟩

/-! ### '==' of structs and arrays, worked out part by part. -/
def partO (P : Program) (t : TypeId) (cs : List A) (off : Nat) : Option V :=
  match aggOf P t, P.info? t with
  | some false, _ => match cs[off]? with
    | some x => some (.a x)
    | none => none
  | some true, some i => some (.g ((cs.take (off + i.size)).drop off))
  | _, _ => none
theorem partO_part {P : Program} {t : TypeId} {cs : List A} {off : Nat} {v : V} (h : partO P t cs off = some v) (β : Nat → Nat) (w : World) :
    (part t (cs.map (A.val β)).toArray off).run P w = .ok (v.val β) w := by
  have hp : partx P t cs off (fun u => u = v) := by
    unfold partO at h
    unfold partx
    split at h
    · rename_i ht
      split at h
      · rename_i x hx
        simp only [Option.some.injEq] at h
        simp [optx, hx, h, ht]
      · cases h
    · rename_i q ht hq
      simp only [Option.some.injEq] at h
      simp [ht, hq, h]
    · cases h
  obtain ⟨u, hu, hr⟩ := partx_sound hp
  subst hu
  -- the part's own values are no matter
  have := fun n hok => (hr n hok).2 β w
  unfold partO at h
  split at h
  · rename_i ht
    split at h
    · rename_i x hx
      simp only [Option.some.injEq] at h
      subst h
      simp [part, aggOf_sound ht, hx, V.val_a]
    · cases h
  · rename_i q ht hq
    simp only [Option.some.injEq] at h
    subst h
    simp [part, aggOf_sound ht, sizeOf, typeInfo, hq, V.val, List.map_take, List.map_drop, List.drop_take]
  · cases h
def andO : Option Bool → Option Bool → Option Bool
  | some a, some b => some (a && b)
  | _, _ => none
def eqFl (P : Program) (rec : TypeId → V → V → Option Bool) (xs ys : List A) : List Field → Option Bool
  | [] => some true
  | f :: fs => match f.name != "_" with
    | true => match partO P f.type xs f.offset, partO P f.type ys f.offset with
      | some a, some b => andO (rec f.type a b) (eqFl P rec xs ys fs)
      | _, _ => none
    | false => eqFl P rec xs ys fs
def eqIt (P : Program) (rec : TypeId → V → V → Option Bool) (e : TypeId) (c : Nat) (xs ys : List A) : List Nat → Option Bool
  | [] => some true
  | i :: is => match partO P e xs (i * c), partO P e ys (i * c) with
    | some a, some b => andO (rec e a b) (eqIt P rec e c xs ys is)
    | _, _ => none
def eqS (P : Program) (t : TypeId) (x y : A) : Option Bool := match P.underlying t, x, y with
  | some (.int _), .int k a, .int k' b => if k = k' then some (decide (a = b)) else none
  | some .string, .str a, .str b => some (a.data.toList == b.data.toList)
  | _, x, y => eqAtom P t x y
def eqD (P : Program) : Nat → TypeId → V → V → Option Bool
  | 0, _, _, _ => none
  | d + 1, t, .a x, .a y => eqS P t x y
  | d + 1, t, .g xs, .g ys => match P.underlying t with
    | some (.struct fs) => match P.stoodInHeld t with
      | true => none
      | false => eqFl P (eqD P d) xs ys fs.toList
    | some (.array n e) => match P.info? e with
      | some i => eqIt P (eqD P d) e i.size xs ys (List.range n)
      | none => none
    | _ => none
  | _, _, _, _ => none
theorem andO_some {x y : Option Bool} {b : Bool} (h : andO x y = some b) : ∃ p q, x = some p ∧ y = some q ∧ b = (p && q) := by
  cases x <;> cases y <;> simp_all [andO]
theorem eqS_sound {P : Program} {t : TypeId} {x y : A} {b : Bool} (h : eqS P t x y = some b) (β : Nat → Nat) (w : World) (d : Nat) :
    (Op.equalIn (d + 1) t (x.val β) (y.val β)).run P w = .ok b w := by
  unfold eqS at h
  split at h
  · rename_i k0 k a k' c hu
    split at h
    · rename_i hk
      subst hk
      simp only [Option.some.injEq] at h
      subst h
      rw [A.val, A.val, run_equalIn_int w d t k k0 a c hu]
      rfl
    · cases h
  · rename_i a c hu
    simp only [Option.some.injEq] at h
    subst h
    rw [A.val, A.val, run_equalIn_string w d t a c hu, Go.ByteArray.toList_eq, Go.ByteArray.toList_eq]
  · exact eqAtom_in h β w d
theorem eqFl_sound {P : Program} {rec : TypeId → V → V → Option Bool} {d : Nat} (ih : ∀ t x y b, rec t x y = some b → ∀ (β : Nat → Nat) (w : World), (Op.equalIn d t (x.val β) (y.val β)).run P w = .ok b w)
    {xs ys : List A} (β : Nat → Nat) (w : World) : ∀ (fs : List Field) {b : Bool}, eqFl P rec xs ys fs = some b → (Op.eqFields d (xs.map (A.val β)).toArray (ys.map (A.val β)).toArray fs).run P w = .ok b w
  | [], b, h => by
    simp only [eqFl, Option.some.injEq] at h
    subst h
    simp [Op.eqFields]
  | f :: fs, b, h => by
    unfold eqFl at h
    split at h
    · rename_i hn
      have hn' : f.name ≠ "_" := by simpa using hn
      split at h
      · rename_i x y hx hy
        obtain ⟨p, q, hp, hq, rfl⟩ := andO_some h
        have h1 := ih _ _ _ _ hp β w
        have h2 := eqFl_sound ih β w fs hq
        simp only [Op.eqFields, hn', ne_eq, not_false_eq_true, if_true, Sem.run_bind, partO_part hx, partO_part hy, Result.andThen_ok, h1]
        cases p
        · simp
        · simpa using h2
      · cases h
    · rename_i hn
      have hn' : ¬ f.name ≠ "_" := by simpa using hn
      simp only [Op.eqFields, if_neg hn']
      exact eqFl_sound ih β w fs h
theorem eqIt_sound {P : Program} {rec : TypeId → V → V → Option Bool} {d : Nat} (ih : ∀ t x y b, rec t x y = some b → ∀ (β : Nat → Nat) (w : World), (Op.equalIn d t (x.val β) (y.val β)).run P w = .ok b w)
    {e : TypeId} {c : Nat} {xs ys : List A} (β : Nat → Nat) (w : World) : ∀ (is : List Nat) {b : Bool}, eqIt P rec e c xs ys is = some b → (Op.eqItems d e c (xs.map (A.val β)).toArray (ys.map (A.val β)).toArray is).run P w = .ok b w
  | [], b, h => by
    simp only [eqIt, Option.some.injEq] at h
    subst h
    simp [Op.eqItems]
  | i :: is, b, h => by
    unfold eqIt at h
    split at h
    · rename_i x y hx hy
      obtain ⟨p, q, hp, hq, rfl⟩ := andO_some h
      have h1 := ih _ _ _ _ hp β w
      have h2 := eqIt_sound ih β w is hq
      simp only [Op.eqItems, Sem.run_bind, partO_part hx, partO_part hy, Result.andThen_ok, h1]
      cases p
      · simp
      · simpa using h2
    · cases h
theorem eqD_sound {P : Program} : ∀ (k : Nat) (t : TypeId) (x y : V) (b : Bool), eqD P k t x y = some b → ∀ (d : Nat) (β : Nat → Nat) (w : World), (Op.equalIn (d + k) t (x.val β) (y.val β)).run P w = .ok b w
  | 0, _, _, _, _, h => by simp [eqD] at h
  | k + 1, t, x, y, b, h => by
    intro d β w
    cases x with
    | a x =>
      cases y with
      | a y => exact eqS_sound (show eqS P t x y = some b from h) β w (d + k)
      | _ => simp [eqD] at h
    | g xs =>
      cases y with
      | g ys =>
        have ih : ∀ t x y b, eqD P k t x y = some b → ∀ (β : Nat → Nat) (w : World), (Op.equalIn (d + k) t (x.val β) (y.val β)).run P w = .ok b w := fun t x y b hb β w => eqD_sound k t x y b hb d β w
        simp only [eqD] at h
        split at h
        · rename_i fs hu
          split at h
          · cases h
          · rename_i hs
            have hf : P.fieldsOf t = fs := by simp [Program.fieldsOf, hu]
            rw [← hf] at hu h
            show (Op.equalIn ((d + k) + 1) t _ _).run P w = _
            simp only [V.val]
            rw [run_equalIn_struct w (d + k) t _ _ hu hs]
            exact eqFl_sound ih β w _ h
        · rename_i n e hu
          split at h
          · rename_i i hi
            show (Op.equalIn ((d + k) + 1) t _ _).run P w = _
            simp only [V.val]
            rw [run_equalIn_array w (d + k) _ _ hu hi]
            have hc : P.cellsOf e = i.size := by simp [Program.cellsOf, hi]
            rw [hc]
            exact eqIt_sound ih β w _ h
          · cases h
        · cases h
      | _ => simp [eqD] at h
    | t xs => simp [eqD] at h
theorem EqAgg.of {P : Program} {t : TypeId} {xs ys : List A} {b : Bool} (h : eqD P 12 t (.g xs) (.g ys) = some b) : EqAgg P t xs ys b := fun β w => eqD_sound 12 t _ _ b h 9988 β w
end Go.Eng
