/- The engine, part E: how a walk begins, and small rules for use. -/
import Derived.Test.YtkggpkgnkppceaaEngD
import Derived.Below
set_option linter.unusedVariables false
namespace Go.Eng
open Go.RowKit

/-- A function that is handed read-only memory alone: what it tells at the row. -/
theorem Fn.top {P : Program} {ro : Addr → A → Prop} {f : FuncId} {args : List V} {w : World} (hro : RoOK ro (fun _ => 0) 0 w) (hargs : ∀ v ∈ args, v.ok 0)
    (h : Fn P ro f args [] (fun v _ => v = .a (.bool true))) : Calls P f (args.map (V.val fun _ => 0)).toArray w fun e w' => e = .returned (.bool true) ∧ Below w.heap.size w w' := by
  unfold Fn at h
  refine (h (fun _ => 0) w hargs ⟨?_, ?_, ?_, fun _ _ => rfl, Nat.le_refl _, Fr.refl _ _ _, ?_, hro⟩).mono fun e w' ⟨v, H', β', hv, he, _, hm⟩ => ?_
  · intro i j hi; exact absurd hi (Nat.not_lt_zero _)
  · intro i o h; simp at h
  · intro i o h; simp at h
  · intro i _ hi; exact absurd hi (Nat.not_lt_zero _)
  · subst hv
    refine ⟨he, hm.fr.os, hm.fr.tape, hm.fr.output, hm.fr.size, fun k hk => hm.fr.keep k hk fun i hi => ?_⟩
    exact absurd hi (Nat.not_lt_zero _)
theorem RoOK.none (β0 : Nat → Nat) (n0 : Nat) (w : World) : RoOK (fun _ _ => False) β0 n0 w := ⟨fun _ _ h => h.elim, fun _ _ h => h.elim, fun _ _ h => h.elim, fun _ _ h => h.elim⟩
theorem Fn.mono {P : Program} {ro : Addr → A → Prop} {f : FuncId} {args : List V} {H : Hp} {K K' : V → Hp → Prop} (h : Fn P ro f args H K) (hk : ∀ v H', K v H' → K' v H') : Fn P ro f args H K' := by
  unfold Fn at h ⊢
  intro β w hok hw
  exact (h β w hok hw).mono fun e w' ⟨v, H', β', hv, he, hvo, hm⟩ => ⟨v, H', β', hk v H' hv, he, hvo, hm⟩
theorem loopx_of {n0 : Nat} {body : Frm → Hp → (Exit → Frm → Hp → Prop) → Prop} {F : Frm} {H : Hp} {Q : Exit → Frm → Hp → Prop} (I : Nat → Frm → Hp → Prop) (n : Nat) (h0 : Into n0 F H (I n))
    (h : ∀ n F H, I n F H → body F H (fun e F' H' => match e with
      | .normal => ∃ m, m < n ∧ Into n0 F' H' (I m)
      | e => Q e F' H')) : loopx n0 body F H Q := by
  unfold loopx
  exact ⟨I, n, h0, h⟩
end Go.Eng
