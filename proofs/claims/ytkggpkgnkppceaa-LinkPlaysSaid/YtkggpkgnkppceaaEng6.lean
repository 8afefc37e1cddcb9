/- The engine, part 6: slices, builtins, calls. -/
import Derived.Test.YtkggpkgnkppceaaEng5
set_option linter.unusedVariables false
namespace Go.Eng
section opers
variable {c : Ctx} {o : Oper} {β : Num} {F : Frm} {H : Hp} {a : Act} {w : World} {K : V → Hp → Prop}

theorem bndx_sound {X : Option Operand} {d y : Nat} {K : Nat → Prop} (h : bndx F X d y K) :
    (X = none ∧ K d) ∨ ∃ x k i, X = some x ∧ rho F x = some (.a (.int k i)) ∧ 0 ≤ i ∧ i ≤ y ∧ K i.toNat := by
  unfold bndx at h
  split at h
  · exact .inl ⟨rfl, h⟩
  · rename_i x
    split at h
    · rename_i k i hx
      obtain ⟨hb, h⟩ := needx_elim h
      have hb' := of_decide_eq_true hb
      exact .inr ⟨x, k, i, rfl, hx, hb'.1, hb'.2, h⟩
    · exact h.elim
theorem run_bound {P : Program} {w : World} {k : IntKind} {i : Int} {y : Nat} {code : BoundsCode} (h0 : 0 ≤ i) (h1 : i ≤ y) : (Instr.sliceBound (.int k i) y code).run P w = .ok i.toNat w := by
  simp [Instr.sliceBound, asIntOf, h0, h1]
/-- The three bounds of a slice expression. -/
theorem bounds_sound (c : Ctx) {lo hi mx : Option Operand} {n cap : Nat} {s : Bool} {K : Nat → Nat → Nat → Prop}
    (h : bndx F mx cap cap fun m => bndx F hi n m fun h => needx (!(hi.isNone && mx.isSome)) (bndx F lo 0 h fun l => K l h m)) :
    ∃ l h m, K l h m ∧ (l ≤ h ∧ m ≤ cap ∧ (h ≤ m ∨ h = n)) ∧ ∀ β a w P, FSat c β F H a → (Instr.sliceBounds s n cap (lo.map a.eval) (hi.map a.eval) (mx.map a.eval)).run P w = .ok (l, h, m) w := by
  rcases bndx_sound h with ⟨rfl, h⟩ | ⟨x, k, i, rfl, hx, i0, i1, h⟩
  · rcases bndx_sound h with ⟨rfl, h⟩ | ⟨y, k, j, rfl, hy, j0, j1, h⟩
    · obtain ⟨_, h⟩ := needx_elim h
      rcases bndx_sound h with ⟨rfl, h⟩ | ⟨z, k, q, rfl, hz, q0, q1, h⟩
      · exact ⟨_, _, _, h, by omega, fun β a w P hf => by simp [Instr.sliceBounds]⟩
      · exact ⟨_, _, _, h, by omega, fun β a w P hf => by simp [Instr.sliceBounds, (rho_sound hf hz).1, V.val_a, A.val, run_bound q0 q1]⟩
    · obtain ⟨_, h⟩ := needx_elim h
      rcases bndx_sound h with ⟨rfl, h⟩ | ⟨z, k, q, rfl, hz, q0, q1, h⟩
      · exact ⟨_, _, _, h, by omega, fun β a w P hf => by simp [Instr.sliceBounds, (rho_sound hf hy).1, V.val_a, A.val, run_bound j0 j1]⟩
      · exact ⟨_, _, _, h, by omega, fun β a w P hf => by simp [Instr.sliceBounds, (rho_sound hf hy).1, V.val_a, A.val, (rho_sound hf hz).1, V.val_a, A.val, run_bound j0 j1, run_bound q0 q1]⟩
  · rcases bndx_sound h with ⟨rfl, h⟩ | ⟨y, k, j, rfl, hy, j0, j1, h⟩
    · obtain ⟨hb, h⟩ := needx_elim h
      simp at hb
    · obtain ⟨_, h⟩ := needx_elim h
      rcases bndx_sound h with ⟨rfl, h⟩ | ⟨z, k, q, rfl, hz, q0, q1, h⟩
      · exact ⟨_, _, _, h, by omega, fun β a w P hf => by simp [Instr.sliceBounds, (rho_sound hf hx).1, V.val_a, A.val, (rho_sound hf hy).1, V.val_a, A.val, run_bound i0 i1, run_bound j0 j1]⟩
      · exact ⟨_, _, _, h, by omega, fun β a w P hf => by simp [Instr.sliceBounds, (rho_sound hf hx).1, V.val_a, A.val, (rho_sound hf hy).1, V.val_a, A.val, (rho_sound hf hz).1, V.val_a, A.val, run_bound i0 i1, run_bound j0 j1, run_bound q0 q1]⟩
theorem op_slice {t : TypeId} {X : Operand} {lo hi mx : Option Operand} {x : V} (ho : o.op = .slice t X lo hi mx) (hx : rho F X = some x) (h : slicex c.P F t x lo hi mx fun r => K (.a r) H) : Pure c o F H K := by
  unfold slicex at h
  split at h
  · rename_i s hu
    split at h
    · have h' : bndx F none s.size s.size fun m => bndx F hi s.size m fun h => needx (!(hi.isNone && (none : Option Operand).isSome)) (bndx F lo 0 h fun l => K (.a (.str (s.extract l h))) H) := by
        simpa [bndx, needx] using h
      obtain ⟨l, h2, m, hk, hbd, hr⟩ := bounds_sound c (H := H) (s := false) h'
      refine ⟨_, hk, fun β a w hf => ⟨⟨trivial, trivial⟩, ?_⟩⟩
      have hx' := (rho_sound hf hx).1
      have hr := hr β a w c.P hf
      simp only [Option.map_none] at hr
      simp [execOp, ho, hx', V.val_a, A.val, Instr.sliceAt, Instr.slice, underlying, hu, hr]
    · exact h.elim
  · rename_i e b off n cap hu
    split at h
    · rename_i q hq
      obtain ⟨l, h2, m, hk, hbd, hr⟩ := bounds_sound c (H := H) (s := true) h
      refine ⟨_, hk, fun β a w hf => ?_⟩
      obtain ⟨hx', hok⟩ := rho_sound hf hx
      have hr := hr β a w c.P hf
      refine ⟨⟨hok.1, fun e => by have := hok.2 e; omega⟩, ?_⟩
      cases e : β b with
      | none =>
        obtain ⟨rfl, rfl⟩ := hok.2 e
        obtain rfl : m = 0 := by omega
        obtain rfl : h2 = 0 := by omega
        obtain rfl : l = 0 := by omega
        simp only [execOp, ho, hx', V.val_a, A.val, adr_none e, Instr.sliceAt, Instr.slice, underlying, Sem.run_bind, run_program, Result.andThen_ok, hu, Sem.run_pure, hr, sizeOf, typeInfo, hq]
        simp
      | some bb =>
        simp only [execOp, ho, hx', V.val_a, A.val, adr_some e, Instr.sliceAt, Instr.slice, underlying, Sem.run_bind, run_program, Result.andThen_ok, hu, Sem.run_pure, hr, sizeOf, typeInfo, hq]
        by_cases e : m = l <;> simp [e, add_none]
    · exact h.elim
  · rename_i e p n cap hu
    split at h
    · rename_i q hq
      obtain ⟨l, h2, m, hk, hbd, hr⟩ := bounds_sound c (H := H) (s := true) h
      refine ⟨_, hk, fun β a w hf => ?_⟩
      obtain ⟨hx', hok⟩ := rho_sound hf hx
      have hr := hr β a w c.P hf
      refine ⟨⟨trivial, trivial⟩, ?_⟩
      simp only [execOp, ho, hx', V.val_a, A.val, Instr.sliceAt, Instr.slice, underlying, Sem.run_bind, run_program, Result.andThen_ok, hu, Sem.run_pure, hr, sizeOf, typeInfo, hq]
      by_cases e : m = l <;> simp [e]
    · exact h.elim
  · rename_i e hu
    split at h
    · rename_i q hq
      obtain ⟨l, h2, m, hk, hbd, hr⟩ := bounds_sound c (H := H) (s := true) (K := fun l h m => needx (h == 0 && m == 0) (K (.a .nils) H)) h
      obtain ⟨hb, hk⟩ := needx_elim hk
      simp only [Bool.and_eq_true, beq_iff_eq] at hb
      refine ⟨_, hk, fun β a w hf => ?_⟩
      obtain ⟨hx', hok⟩ := rho_sound hf hx
      have hr := hr β a w c.P hf
      refine ⟨⟨trivial, trivial⟩, ?_⟩
      simp only [execOp, ho, hx', V.val_a, A.val, Instr.sliceAt, Instr.slice, underlying, Sem.run_bind, run_program, Result.andThen_ok, hu, Sem.run_pure, hr, sizeOf, typeInfo, hq, hb.1, hb.2]
      simp
    · exact h.elim
  · rename_i n e b off hu
    split at h
    · rename_i q hq
      obtain ⟨l, h2, m, hk, hbd, hr⟩ := bounds_sound c (H := H) (s := false) h
      refine ⟨_, hk, fun β a w hf => ?_⟩
      obtain ⟨hx', hok⟩ := rho_sound hf hx
      have hr := hr β a w c.P hf
      refine ⟨⟨hok.1, fun e => absurd e hok.2⟩, ?_⟩
      obtain ⟨bb, eb, _⟩ := adr_get hok.2 0
      simp only [execOp, ho, hx', V.val_a, A.val, adr_some eb, Instr.sliceAt, Instr.sureAddr, underlying, Sem.run_bind, run_program, Result.andThen_ok, hu, Sem.run_pure, hr, sizeOf, typeInfo, hq]
      by_cases e : m = l <;> simp [e, add_none]
    · exact h.elim
  · exact h.elim
theorem op_toPtr_slc {t : TypeId} {X : Operand} {n e b off l k : Nat} (ho : o.op = .sliceToArrayPointer t X) (hu : c.P.underlying t = some (.array n e)) (hx : rho F X = some (.a (.slc b off l k)))
    (h : needx (decide (n ≤ l) && Nat.ble 1 n) (K (.a (.ptr b off)) H)) : Pure c o F H K := by
  obtain ⟨hb, h⟩ := needx_elim h
  simp only [Bool.and_eq_true] at hb
  have hb' : ¬ l < n := by have := of_decide_eq_true hb.1; omega
  have hn := Nat.le_of_ble_eq_true hb.2
  refine ⟨_, h, fun β a w hf => ?_⟩
  obtain ⟨hx', hok⟩ := rho_sound hf hx
  have hne : β b ≠ none := fun e => by have := (hok.2 e).1; omega
  obtain ⟨bb, eb, _⟩ := adr_get hne 0
  refine ⟨⟨hok.1, hne⟩, ?_⟩
  simp [execOp, ho, hx', V.val_a, A.val, adr_some eb, Instr.arrayAt, underlying, hu, hb']
theorem op_toPtr_rslc {t : TypeId} {X : Operand} {n e l k : Nat} {p : Addr} (ho : o.op = .sliceToArrayPointer t X) (hu : c.P.underlying t = some (.array n e)) (hx : rho F X = some (.a (.rslc p l k)))
    (h : needx (decide (n ≤ l)) (K (.a (.rptr p)) H)) : Pure c o F H K := by
  obtain ⟨hb, h⟩ := needx_elim h
  have hb' : ¬ l < n := by have := of_decide_eq_true hb; omega
  refine ⟨_, h, fun β a w hf => ⟨⟨trivial, trivial⟩, ?_⟩⟩
  have hx' := (rho_sound hf hx).1
  simp [execOp, ho, hx', V.val_a, A.val, Instr.arrayAt, underlying, hu, hb']
theorem capsx_sound (hF : FSat c β F H a) : ∀ {l : List Operand} {qs : List (Nat × Nat)}, capsx F l = some qs → l.map a.eval = qs.map (fun q => Value.pointer (adr β q.1 q.2)) ∧ ∀ q ∈ qs, q.1 < H.length ∧ β q.1 ≠ none
  | [], qs, h => by simp only [capsx, Option.some.injEq] at h; subst h; simp
  | x :: l, qs, h => by
    simp only [capsx] at h
    split at h
    · rename_i i o r h1 h2
      simp only [Option.some.injEq] at h
      subst h
      obtain ⟨e1, o1⟩ := rho_sound hF h1
      obtain ⟨e2, o2⟩ := capsx_sound hF h2
      refine ⟨by simp [e1, e2, V.val_a, A.val_ptr], fun q hq => ?_⟩
      rcases List.mem_cons.1 hq with rfl | hq
      · exact o1
      · exact o2 q hq
    · cases h
theorem op_makeFunc {f : FuncId} {first caps : Array Operand} {l : List (Nat × Nat)} (ho : o.op = .makeFunc (.func f) first caps) (h1 : first.toList = []) (h2 : capsx F caps.toList = some l) (h : K (.a (.clo f l)) H) : Pure c o F H K := by
  refine ⟨_, h, fun β a w hf => ⟨⟨fun q hq => ((capsx_sound hf h2).2 q hq).1, fun q hq => ((capsx_sound hf h2).2 q hq).2⟩, ?_⟩⟩
  have e := (capsx_sound hf h2).1
  have e1 : first.map a.eval = #[] := by
    apply Array.toList_inj.1
    simp [h1]
  have e2 : caps.map a.eval = (l.map (fun q => Value.pointer (adr β q.1 q.2))).toArray := by
    apply Array.toList_inj.1
    simpa using e
  simp [execOp, ho, Instr.makeFunc, V.val_a, A.val, e1, e2]

theorem op_makeSlice {t : TypeId} {X Y : Operand} {l k : V} (ho : o.op = .makeSlice t X Y) (hx : rho F X = some l) (hy : rho F Y = some k) (h : makex c.P t l k H K) : OpOK c o F H K := by
  unfold makex at h
  split at h
  · rename_i e kl l kc m hu
    split at h
    · rename_i q hq
      obtain ⟨hb, h⟩ := needx_elim h
      unfold mkOK at hb
      have hb' := of_decide_eq_true hb
      obtain ⟨l0, lc, cm, bc⟩ := hb'
      split at h
      · rename_i zs hz
        obtain ⟨hb2, h⟩ := needx_elim h
        simp only [Bool.and_eq_true, beq_iff_eq, bne_iff_ne, ne_eq] at hb2
        obtain ⟨q', z, hi, hv, hc, hok⟩ := zeros_sound hz
        rw [hq] at hi
        obtain rfl := Option.some.inj hi
        refine .new h fun β a w hw hf => ⟨repl_ok (fun x hx => A.fit_of0 (hok x hx)) _, fit_news, ?_⟩
        have hx' := (rho_sound hf hx).1
        have hy' := (rho_sound hf hy).1
        have hne : zs.length ≠ 0 := by rw [hb2.1]; exact hb2.2
        have wl : IntKind.i64.wrap l = l := by simp only [IntKind.wrap, IntKind.bits, IntKind.signed, Bool.true_and]; split <;> simp_all <;> omega
        have wm : IntKind.i64.wrap m = m := by simp only [IntKind.wrap, IntKind.bits, IntKind.signed, Bool.true_and]; split <;> simp_all <;> omega
        simp only [execOp, ho, hx', hy', V.val_a, A.val, Instr.makeSlice, underlying, Sem.run_bind, run_program, Result.andThen_ok, hu, Sem.run_pure, asInt, asIntOf, typeInfo, hq, wl, wm]
        rw [if_neg (by simp; omega)]
        simp only [Sem.run_bind, run_askRoom, Result.andThen_ok, sizeOf, typeInfo, run_program, hq, Sem.run_pure, Sem.run_ite]
        by_cases h0 : m.toNat * q.size = 0
        · have hcells : (Array.range (m.toNat * q.size)).map (fun i => (#[] : Array Value)[i % (#[] : Array Value).size]!) = ((repl zs (m.toNat * q.size)).map (A.val β)).toArray := by
            rw [h0]
            have : repl zs 0 = [] := List.eq_nil_of_length_eq_zero (repl_length _ _)
            simp [this]
          rw [if_pos h0, hcells]
          simp [newRow, adr_new]
        · have hcells := repl_val (β := β) hne (m.toNat * q.size) (hc β)
          rw [if_neg h0]
          simp only [zeroValue, typeInfo, Sem.run_bind, run_program, Result.andThen_ok, hq, hv, Sem.run_pure]
          rw [hcells]
          simp [newRow, adr_new]
      · exact h.elim
    · exact h.elim
  · exact h.elim
end opers
end Go.Eng
