/- The engine, part 4: comparisons, conversions, building, slicing. -/
import Derived.Test.YtkggpkgnkppceaaEng3
import Derived.Laws.BytesString
set_option linter.unusedVariables false
namespace Go.Eng
section opers
variable {c : Ctx} {o : Oper} {β : Num} {F : Frm} {H : Hp} {a : Act} {w : World} {K : V → Hp → Prop}

theorem eqGuard_plain {op : BinOp} {t : TypeId} {X Y : Operand} {u v : Value} (hu : ∀ cs, u ≠ .agg cs) (h : u ≠ .nilIface ∨ v ≠ .nilIface) (P : Program) (w : World) :
    (eqGuard op t X Y u v).run P w = .ok () w := by
  unfold eqGuard
  split
  case h_3 => rfl
  all_goals
    simp only [Bool.not_true, Bool.false_eq_true, if_false]
    split
    · simp_all
    · rename_i cs _
      exact absurd rfl (hu cs)
    · rfl
theorem eqGuard_agg {op : BinOp} {t : TypeId} {X Y : Operand} {xs ys : Array Value} {P : Program} (h : P.eqGuardType P.depth t = false) (w : World) :
    (eqGuard op t X Y (.agg xs) (.agg ys)).run P w = .ok () w := by
  unfold eqGuard
  split
  case h_3 => rfl
  all_goals simp [h]
theorem A.val_ne_agg (β : Num) (x : A) (cs : Array Value) : x.val β ≠ .agg cs := by cases x <;> simp [A.val]
theorem A.val_nil {β : Num} {x : A} (h : x.val β = .nilIface) : x = .nili := by cases x <;> simp [A.val] at h ⊢
theorem binOp_eq {P : Program} {t : TypeId} {x y : A} {b : Bool} (h : eqAtom P t x y = some b) (β : Num) (w : World) (gx : x.gh β) (gy : y.gh β) :
    (Go.binOp .eql t (x.val β) (y.val β)).run P w = .ok (.bool b) w ∧ (Go.binOp .neq t (x.val β) (y.val β)).run P w = .ok (.bool !b) w := by
  have hs := eqAtom_sound h β w gx gy
  unfold eqAtom at h
  split at h
  case h_8 | h_10 =>
    split at h
    · simp only [Option.some.injEq] at h
      subst h
      simp only [A.val] at hs ⊢
      simp [Go.binOp, hs]
    · cases h
  all_goals
    simp only [Option.some.injEq, reduceCtorEq] at h <;> subst h <;> simp only [A.val] at hs ⊢ <;>
      simp [Go.binOp, hs]
theorem eqAtom_nil {P : Program} {t : TypeId} {x y : A} {b : Bool} (h : eqAtom P t x y = some b) : x ≠ .nili ∨ y ≠ .nili := by
  unfold eqAtom at h
  split at h <;> simp_all
/-- A float's arithmetic may draw the bits of a NaN. -/
def fltArith (op : BinOp) (x y : V) : Bool := match op, x, y with
  | .add, .a (.flt _ _), .a (.flt _ _) => true
  | .sub, .a (.flt _ _), .a (.flt _ _) => true
  | .mul, .a (.flt _ _), .a (.flt _ _) => true
  | .quo, .a (.flt _ _), .a (.flt _ _) => true
  | _, _, _ => false
theorem floatx_still {op : BinOp} {k : FloatKind} {p q : Nat} {K : A → Prop} (h : floatx op k p q K) (hs : fltArith op (.a (.flt k p)) (.a (.flt k q)) = false) (P : Program) (t : TypeId) :
    ∃ x, K x ∧ x.ok 0 ∧ ∀ (w : World) (β : Num), (Go.binOp op t (.float k p) (.float k q)).run P w = .ok (x.val β) w := by
  unfold floatx at h
  split at h
  case h_1 | h_2 | h_3 | h_4 => simp [fltArith] at hs
  all_goals first
    | exact h.elim
    | (refine ⟨_, h, trivial, fun w β => ?_⟩
       simp [Go.binOp, Op.floatCmp, A.val, fEqK, fLtK, fGtK, bne]
       done)
theorem binA_still {op : BinOp} {t : TypeId} {X Y : Operand} {x y : A} {K : A → Prop} (h : binA c.P op t x y K) (hs : fltArith op (.a x) (.a y) = false) :
    ∃ r, K r ∧ r.ok 0 ∧ ∀ (w : World) (β : Num), x.gh β → y.gh β → ((do eqGuard op t X Y (x.val β) (y.val β); Go.binOp op t (x.val β) (y.val β)) : Sem Value).run c.P w = .ok (r.val β) w := by
  unfold binA at h
  split at h
  · rename_i k p k' q
    have guard : ∀ w, (eqGuard op t X Y (.int k p) (.int k' q)).run c.P w = .ok () w := fun w => eqGuard_plain (by simp) (by simp) _ _
    split at h
    · obtain ⟨hb, h⟩ := needx_elim h
      have hb' : ¬ q < 0 := by have := of_decide_eq_true hb; omega
      exact ⟨_, h, trivial, fun w β _ _ => by simp [A.val, guard w, Go.binOp, Op.shift, hb']⟩
    · obtain ⟨hb, h⟩ := needx_elim h
      have hb' : ¬ q < 0 := by have := of_decide_eq_true hb; omega
      exact ⟨_, h, trivial, fun w β _ _ => by simp [A.val, guard w, Go.binOp, Op.shift, hb']⟩
    · rename_i hsh hsh'
      obtain ⟨hb, h2⟩ := needx_elim h
      have hb' : k = k' := of_decide_eq_true hb
      subst hb'
      obtain ⟨r, hk, ho, hr⟩ := intx_sound (fun e => hsh e) (fun e => hsh' e) h2 c.P t
      exact ⟨r, hk, ho, fun w β _ _ => by simp only [A.val, Sem.run_bind, guard w, Result.andThen_ok, hr w β]⟩
  · rename_i k p k' q
    obtain ⟨hb, h2⟩ := needx_elim h
    have hb' : k = k' := of_decide_eq_true hb
    subst hb'
    obtain ⟨r, hk, ho, hr⟩ := floatx_still h2 hs c.P t
    exact ⟨r, hk, ho, fun w β _ _ => by simp only [A.val, Sem.run_bind, eqGuard_plain (u := .float k p) (by simp) (by simp), Result.andThen_ok, hr w β]⟩
  · obtain ⟨r, hk, ho, hr⟩ := strx_sound h c.P t
    exact ⟨r, hk, ho, fun w β _ _ => by simp only [A.val, Sem.run_bind, eqGuard_plain (u := .string _) (by simp) (by simp), Result.andThen_ok, hr w β]⟩
  · split at h
    · obtain ⟨b, hb, hk⟩ := optx_elim h
      refine ⟨_, hk, trivial, fun w β gx gy => ?_⟩
      have hg := eqGuard_plain (op := .eql) (t := t) (X := X) (Y := Y) (u := x.val β) (v := y.val β) (A.val_ne_agg β x) ((eqAtom_nil hb).imp (fun h e => h (A.val_nil e)) (fun h e => h (A.val_nil e))) c.P w
      rw [Sem.run_bind, hg, Result.andThen_ok, (binOp_eq hb β w gx gy).1]
      rfl
    · obtain ⟨b, hb, hk⟩ := optx_elim h
      refine ⟨_, hk, trivial, fun w β gx gy => ?_⟩
      have hg := eqGuard_plain (op := .neq) (t := t) (X := X) (Y := Y) (u := x.val β) (v := y.val β) (A.val_ne_agg β x) ((eqAtom_nil hb).imp (fun h e => h (A.val_nil e)) (fun h e => h (A.val_nil e))) c.P w
      rw [Sem.run_bind, hg, Result.andThen_ok, (binOp_eq hb β w gx gy).2]
      rfl
    · exact h.elim
theorem op_bin_still {op : BinOp} {t u : TypeId} {X Y : Operand} {x y : V} (ho : o.op = .binOp op t X Y u) (hx : rho F X = some x) (hy : rho F Y = some y) (hs : fltArith op x y = false) (h : binx c.P op t x y fun r => K r H) : Pure c o F H K := by
  unfold binx at h
  split at h
  · obtain ⟨r, hk, hok, hr⟩ := binA_still (X := X) (Y := Y) h hs
    refine ⟨_, hk, fun β a w hf => ⟨A.fit_of0 hok, ?_⟩⟩
    have hx' := (rho_sound hf hx).1
    have hy' := (rho_sound hf hy).1
    have := hr w β (rho_sound hf hx).2.2 (rho_sound hf hy).2.2
    simp only [execOp, ho, hx', hy', V.val_a, Sem.run_bind] at this ⊢
    rw [this]
    rfl
  · rename_i xs ys
    obtain ⟨hg, h⟩ := needx_elim h
    have hg' : c.P.eqGuardType c.P.depth t = false := by simpa using hg
    split at h
    · obtain ⟨b, hb, hk⟩ := h
      refine ⟨_, hk, fun β a w hf => ⟨⟨trivial, trivial⟩, ?_⟩⟩
      have hx' := (rho_sound hf hx).1
      have hy' := (rho_sound hf hy).1
      have he := hb β w (rho_sound hf hx).2.2 (rho_sound hf hy).2.2
      simp only [execOp, ho, hx', hy', V.val, Sem.run_bind, eqGuard_agg hg', Result.andThen_ok, Go.binOp, he, Sem.run_pure, A.val]
    · obtain ⟨b, hb, hk⟩ := h
      refine ⟨_, hk, fun β a w hf => ⟨⟨trivial, trivial⟩, ?_⟩⟩
      have hx' := (rho_sound hf hx).1
      have hy' := (rho_sound hf hy).1
      have he := hb β w (rho_sound hf hx).2.2 (rho_sound hf hy).2.2
      simp only [execOp, ho, hx', hy', V.val, Sem.run_bind, eqGuard_agg hg', Result.andThen_ok, Go.binOp, he, Sem.run_pure, A.val]
    · exact h.elim
  · exact h.elim
theorem op_bin {op : BinOp} {t u : TypeId} {X Y : Operand} {x y : V} (ho : o.op = .binOp op t X Y u) (hx : rho F X = some x) (hy : rho F Y = some y) (h : binx c.P op t x y fun r => K r H) : OpOK c o F H K := by
  by_cases hs : fltArith op x y = false
  · exact (op_bin_still ho hx hy hs h).still.ok
  · refine .valueD fun β a w hw hf => ?_
    have hx' := (rho_sound hf hx).1
    have hy' := (rho_sound hf hy).1
    unfold fltArith at hs
    split at hs
    case h_5 => exact absurd rfl hs
    all_goals
      rename_i k p k' q
      simp only [binx, binA] at h
      obtain ⟨hb, h2⟩ := needx_elim h
      have hb' : k = k' := of_decide_eq_true hb
      subst hb'
      obtain ⟨r, d, hk, hok, hr⟩ := floatx_sound h2 c.P t w
      refine ⟨_, d, hk, A.fit_of0 hok, ?_⟩
      have := hr β
      simp only [execOp, ho, hx', hy', V.val_a, A.val, Sem.run_bind, eqGuard_plain (u := .float k p) (by simp) (by simp), Result.andThen_ok, this, Sem.run_pure]

/-! Reading rows. -/
theorem rowx_sound {x : A} {n : Nat} {K : List A → Prop} (h : rowx c.ro H x n K) :
    ∃ xs : List A, K xs ∧ xs.length = n ∧ ∀ β w, WSat c β H w → x.gh β → (∀ y ∈ xs, y.fit β H.length) ∧
      ((x.val β = .slice none 0 0 ∧ n = 0) ∨ ∃ p l k, x.val β = .slice (some p) l k ∧ ∀ j y, xs[j]? = some y → w.cell? (p.add j) = some (y.val β)) := by
  unfold rowx at h
  split at h
  · obtain ⟨hn, h⟩ := needx_elim h
    have hn' : n = 0 := by simpa using hn
    exact ⟨[], h, by simp [hn'], fun β w hw _ => ⟨by simp, .inl ⟨rfl, hn'⟩⟩⟩
  · rename_i id off l k
    split at h
    · rename_i cs ty mk hb
      obtain ⟨hl, h⟩ := needx_elim h
      have hl' : off + n ≤ cs.length := of_decide_eq_true hl
      refine ⟨_, h, length_slice hl', fun β w hw hg => ⟨ok_slice (hw.ok_cells hb), ?_⟩⟩
      cases e : β id with
      | none =>
        obtain ⟨rfl, rfl⟩ := hg e
        have hbr : cs = [] := hw.bare id _ hb e
        refine .inl ⟨by simp [A.val, adr_none e], ?_⟩
        rw [hbr] at hl'
        simp at hl'
        omega
      | some b =>
        refine .inr ⟨_, l, k, congrArg (fun z => Value.slice z l k) (adr_some e off), fun j y hy => ?_⟩
        rw [add_none]
        exact hw.cell hb e (getElem_slice hy)
    · exact h.elim
  · rename_i p l k
    obtain ⟨xs, hl, hx, hk⟩ := h
    refine ⟨xs, hk, hl, fun β w hw _ => ⟨fun y hy => ?_, .inr ⟨p, l, k, rfl, fun j y hy => hw.rcell (hx j y hy)⟩⟩⟩
    obtain ⟨j, hj⟩ := List.getElem?_of_mem hy
    exact A.fit_of0 (hw.ro.ext _ y (hx j y hj))
  · exact h.elim
theorem run_loadRow {P : Program} {xs : List A} {p : Addr} (h : ∀ j y, xs[j]? = some y → w.cell? (p.add j) = some (y.val β)) :
    (loadCells p xs.length).run P w = .ok (xs.map (A.val β)).toArray w := by
  have := run_loadCells (P := P) (w := w) (xs.map (A.val β)) p 0 #[] (fun j v hj => by
    rw [List.getElem?_map] at hj
    obtain ⟨y, hy, rfl⟩ := Option.map_eq_some_iff.1 hj
    rw [Nat.zero_add]
    exact h j y hy)
  rw [List.length_map] at this
  simpa [loadCells] using this
theorem bytesOf_sound : ∀ {cs : List A} {bs : List UInt8}, bytesOf cs = some bs → ∃ ns : List Int, cs = ns.map (A.int .u8) ∧ bs = ns.map fun n => UInt8.ofNat n.toNat
  | [], bs, h => by simp only [bytesOf, Option.some.injEq] at h; subst h; exact ⟨[], rfl, rfl⟩
  | x :: l, bs, h => by
    unfold bytesOf at h
    split at h
    · cases ‹_ :: _ = []›
    · rename_i n l' e
      injection e with e1 e2
      subst e1 e2
      split at h
      · rename_i r hr
        simp only [Option.some.injEq] at h
        subst h
        obtain ⟨ns, h1, h2⟩ := bytesOf_sound hr
        exact ⟨n :: ns, by simp [h1], by simp [h2]⟩
      · cases h
    · cases h
theorem foldl_push (ns : List Int) : ∀ acc : ByteArray, ns.foldl (fun (r : ByteArray) n => r.push (UInt8.ofNat n.toNat)) acc = ⟨acc.data ++ (ns.map fun n => UInt8.ofNat n.toNat).toArray⟩ := by
  induction ns with
  | nil => intro acc; simp
  | cons n ns ih =>
    intro acc
    rw [List.foldl_cons, ih]
    simp [ByteArray.push]
theorem run_bytesStr {P : Program} {xs : List A} {bs : List UInt8} (hb : bytesOf xs = some bs) {p : Addr} {l k : Nat} (hl : xs.length = l) (h : ∀ j y, xs[j]? = some y → w.cell? (p.add j) = some (y.val β)) :
    (Conv.bytesToString (.slice (some p) l k)).run P w = .ok (.string ⟨bs.toArray⟩) w := by
  obtain ⟨ns, h1, h2⟩ := bytesOf_sound hb
  have hr := run_loadRow (P := P) h
  have e : xs.map (A.val β) = ns.map (Value.int .u8) := by subst h1; simp [A.val]
  rw [e, hl] at hr
  rw [run_bytesToString w p l k ns hr, foldl_push, h2]
  simp
end opers
end Go.Eng
