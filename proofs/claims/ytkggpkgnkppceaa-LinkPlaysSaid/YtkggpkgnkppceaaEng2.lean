/- The engine, part 2: what part 1 says of an operation is what the model does. -/
import Derived.Test.YtkggpkgnkppceaaEng1
import Derived.Laws.Append
set_option linter.unusedVariables false
namespace Go.Eng

/-- An operation is carried out as K asks. -/
def OpOK (c : Ctx) (o : Oper) (F : Frm) (H : Hp) (K : V → Hp → Prop) : Prop :=
  ∀ β a w, WSat c β H w → FSat c β F H a → ∀ (next : Act → World → Prop) (Q : Exit → Act → World → Prop),
    (∀ v H' β' w', K v H' → v.fit β' H'.length → Mv c β H w β' H' w' → next (a.put o.dst (v.val β')) w') → o.wp c.P a w next Q

section small
theorem V.val_a (β : Num) (x : A) : V.val β (.a x) = x.val β := rfl
theorem A.val_ptr (β : Num) (i o : Nat) : A.val β (.ptr i o) = .pointer (adr β i o) := rfl
theorem A.val_slc (β : Num) (i o l k : Nat) : A.val β (.slc i o l k) = .slice (adr β i o) l k := rfl
theorem adr_some {β : Num} {i b : Nat} (h : β i = some b) (o : Nat) : adr β i o = some ⟨b, o, none⟩ := by unfold adr; rw [h]
theorem adr_none {β : Num} {i : Nat} (h : β i = none) (o : Nat) : adr β i o = none := by unfold adr; rw [h]
theorem adr_get {β : Num} {i : Nat} (h : β i ≠ none) (o : Nat) : ∃ b, β i = some b ∧ adr β i o = some ⟨b, o, none⟩ := by
  cases e : β i with
  | none => exact absurd e h
  | some b => exact ⟨b, rfl, adr_some e o⟩
theorem add_none (b off n : Nat) : (Addr.add ⟨b, off, none⟩ n) = ⟨b, off + n, none⟩ := by
  unfold Addr.add
  by_cases h : n = 0
  · simp [h]
  · simp [h]
theorem add_add (p : Addr) (hp : p.spot = none) (n m : Nat) : (p.add n).add m = p.add (n + m) := by
  obtain ⟨b, o, s⟩ := p
  simp only at hp
  subst hp
  simp only [add_none, Nat.add_assoc]
theorem ofVal_sound {β : Num} : ∀ {v : Value} {x : A}, A.ofVal v = some x → x.val β = v ∧ x.ok 0 := by
  intro v x h
  unfold A.ofVal at h
  split at h <;> simp only [Option.some.injEq, reduceCtorEq] at h <;> subst h <;> exact ⟨rfl, trivial⟩
theorem ofVals_sound {β : Num} : ∀ {l : List Value} {xs : List A}, ofVals l = some xs → xs.map (A.val β) = l ∧ ∀ x ∈ xs, x.ok 0
  | [], xs, h => by simp only [ofVals, Option.some.injEq] at h; subst h; simp
  | v :: l, xs, h => by
    simp only [ofVals] at h
    split at h
    · rename_i x ys h1 h2
      simp only [Option.some.injEq] at h
      subst h
      obtain ⟨e1, o1⟩ := ofVal_sound (β := β) h1
      obtain ⟨e2, o2⟩ := ofVals_sound (β := β) h2
      exact ⟨by simp [e1, e2], by simpa using ⟨o1, o2⟩⟩
    · cases h
theorem V.ofVal_sound {β : Num} {v : Value} {x : V} (h : V.ofVal v = some x) : x.val β = v ∧ x.ok 0 := by
  unfold V.ofVal at h
  split at h
  · split at h
    · rename_i cs _ xs h1
      simp only [Option.some.injEq] at h
      subst h
      obtain ⟨e, o⟩ := ofVals_sound (β := β) h1
      exact ⟨by simp [V.val, e], o⟩
    · cases h
  · split at h
    · rename_i x' h1
      simp only [Option.some.injEq] at h
      subst h
      exact Eng.ofVal_sound h1
    · cases h
end small

section opers
variable {c : Ctx} {o : Oper} {β : Num} {F : Frm} {H : Hp} {a : Act} {w : World}

theorem rho_sound (hF : FSat c β F H a) {x : Operand} {v : V} (h : rho F x = some v) : a.eval x = v.val β ∧ v.fit β H.length := by
  cases x with
  | tmp t =>
    have := hF.slot t v h
    exact ⟨by simp [Act.eval, this], hF.ok t v h⟩
  | const u =>
    obtain ⟨e, ok⟩ := V.ofVal_sound (β := β) h
    exact ⟨e.symm, V.fit_of0 ok⟩
  | global g =>
    simp only [rho, Option.some.injEq] at h
    subst h
    exact ⟨rfl, trivial, trivial⟩
  | func f =>
    simp only [rho, Option.some.injEq] at h
    subst h
    exact ⟨rfl, fun q hq => (by cases hq), fun q hq => (by cases hq)⟩
theorem rhos_sound (hF : FSat c β F H a) : ∀ {l : List Operand} {vs : List V}, rhos F l = some vs → l.map a.eval = vs.map (V.val β) ∧ ∀ v ∈ vs, v.fit β H.length
  | [], vs, h => by simp only [rhos, Option.some.injEq] at h; subst h; simp
  | x :: l, vs, h => by
    simp only [rhos] at h
    split at h
    · rename_i v us h1 h2
      simp only [Option.some.injEq] at h
      subst h
      obtain ⟨e1, o1⟩ := rho_sound hF h1
      obtain ⟨e2, o2⟩ := rhos_sound hF h2
      exact ⟨by simp [e1, e2], by simpa using ⟨o1, o2⟩⟩
    · cases h

/-- An operation that yields ONE value and leaves the world alone, wherever the local heap is as it is. -/
def Still (c : Ctx) (o : Oper) (F : Frm) (H : Hp) (K : V → Hp → Prop) : Prop :=
  ∃ v, K v H ∧ ∀ β a w, WSat c β H w → FSat c β F H a → v.fit β H.length ∧ (execOp a.eval o).run c.P w = .ok (.value (v.val β)) w
/-- The same, whatever the world is. -/
def Pure (c : Ctx) (o : Oper) (F : Frm) (H : Hp) (K : V → Hp → Prop) : Prop :=
  ∃ v, K v H ∧ ∀ β a w, FSat c β F H a → v.fit β H.length ∧ (execOp a.eval o).run c.P w = .ok (.value (v.val β)) w
theorem Pure.still {K : V → Hp → Prop} (h : Pure c o F H K) : Still c o F H K := by
  obtain ⟨v, hk, h⟩ := h
  exact ⟨v, hk, fun β a w _ hf => h β a w hf⟩
theorem Still.ok {K : V → Hp → Prop} (h : Still c o F H K) : OpOK c o F H K := by
  intro β a w hw hf next Q hn
  obtain ⟨v, hk, h⟩ := h
  obtain ⟨hv, hr⟩ := h β a w hw hf
  simp only [Oper.wp, hr, Oper.upon]
  exact hn v H β w hk hv (Mv.refl hw)

variable {K : V → Hp → Prop}
theorem op_move {x : Operand} (ho : o.op = .move x ∨ o.op = .assign x) (h : optx (rho F x) fun v => K v H) : Pure c o F H K := by
  obtain ⟨v, hv, hk⟩ := optx_elim h
  refine ⟨v, hk, fun β a w hf => ⟨(rho_sound hf hv).2, ?_⟩⟩
  rcases ho with ho | ho <;> simp [execOp, ho, (rho_sound hf hv).1]
theorem op_pick {x y z : Operand} (ho : o.op = .pick x y z) {t : Bool} (hx : rho F x = some (.a (.bool t)))
    (h : condx t (optx (rho F y) fun v => K v H) (optx (rho F z) fun v => K v H)) : Pure c o F H K := by
  rcases condx_elim h with ⟨ht, h⟩ | ⟨ht, h⟩ <;> subst ht <;> obtain ⟨v, hv, hk⟩ := optx_elim h <;>
    refine ⟨v, hk, fun β a w hf => ⟨(rho_sound hf hv).2, ?_⟩⟩ <;>
    have hx' := (rho_sound hf hx).1 <;> simp [execOp, ho, (rho_sound hf hv).1, hx', V.val, A.val, asBool]

/-- A new block. -/
theorem OpOK.new {cs : List A} {ty : TypeId} {v : V} (hk : K v (H ++ [.cells cs ty false])) (h : ∀ β a w, WSat c β H w → FSat c β F H a → (∀ x ∈ cs, x.fit β H.length) ∧ v.fit (fun i => if i = H.length then some w.heap.size else β i) (H.length + 1) ∧
    (execOp a.eval o).run c.P w = .ok (.value (v.val fun i => if i = H.length then some w.heap.size else β i)) (w.alloc (.cells (cs.map (A.val β)).toArray ty))) : OpOK c o F H K := by
  intro β a w hw hf next Q hn
  obtain ⟨hok, hv, hr⟩ := h β a w hw hf
  simp only [Oper.wp, hr, Oper.upon]
  exact hn v _ _ _ hk (by simpa using hv) (hw.alloc (.cells cs ty false) (Ob.fit_cells hok))

theorem zeros_sound {P : Program} {t : TypeId} {cs : List A} (h : zeros P t = some cs) : ∃ i v, P.info? t = some i ∧ i.zero = some v ∧ (∀ β : Num, v.cells = (cs.map (A.val β)).toArray) ∧ ∀ x ∈ cs, x.ok 0 := by
  unfold zeros at h
  split at h
  · rename_i i hi
    split at h
    · rename_i v hv
      exact ⟨i, v, hi, hv, fun β => by rw [(ofVals_sound (β := β) h).1], (ofVals_sound (β := fun _ => none) h).2⟩
    · cases h
  · cases h

theorem fit_new {β : Num} {n b o : Nat} : (V.a (.ptr n o)).fit (fun i => if i = n then some b else β i) (n + 1) := ⟨Nat.lt_succ_self _, by simp [V.gh, A.gh]⟩
theorem val_new {β : Num} {n b o : Nat} : (A.ptr n o).val (fun i => if i = n then some b else β i) = .pointer (some ⟨b, o, none⟩) := by simp [A.val, adr]
theorem op_alloc {t : TypeId} (ho : o.op = .alloc t) (h : optx (zeros c.P t) fun cs => K (.a (.ptr H.length 0)) (H ++ [.cells cs t false])) : OpOK c o F H K := by
  obtain ⟨cs, hz, hk⟩ := optx_elim h
  obtain ⟨i, v, hi, hv, hc, hok⟩ := zeros_sound hz
  refine .new hk fun β a w hw hf => ⟨fun x hx => A.fit_of0 (hok x hx), fit_new, ?_⟩
  simp [execOp, ho, Instr.alloc, zeroValue, typeInfo, hi, hv, newVar, newRow, hc β, V.val, val_new]
theorem op_box {t : TypeId} {x : Operand} {v : V} (ho : o.op = .box t x) (hx : rho F x = some v) (h : optx v.cells? fun cs => K (.a (.ptr H.length 0)) (H ++ [.cells cs t false])) : OpOK c o F H K := by
  obtain ⟨cs, hz, hk⟩ := optx_elim h
  refine .new hk fun β a w hw hf => ⟨V.cells_fit hz (rho_sound hf hx).2, fit_new, ?_⟩
  have hx' := (rho_sound hf hx).1
  simp [execOp, ho, Instr.box, newVar, newRow, hx', V.val_cells hz, val_new, V.val_a]

theorem aggOf_sound {P : Program} {t : TypeId} {b : Bool} (h : aggOf P t = some b) (w : World) : (isAgg t).run P w = .ok b w := by
  unfold aggOf at h
  split at h <;> simp only [Option.some.injEq, reduceCtorEq] at h <;> subst h <;> rename_i hu <;> simp [isAgg, underlying, hu]

theorem run_loadCells {P : Program} {w : World} (xs : List Value) : ∀ (p : Addr) (i : Nat) (acc : Array Value), (∀ j v, xs[j]? = some v → w.cell? (p.add (i + j)) = some v) →
    (loadCellsFrom p i xs.length acc).run P w = .ok (acc ++ xs.toArray) w := by
  induction xs with
  | nil => intro p i acc _; simp [loadCellsFrom]
  | cons x xs ih =>
    intro p i acc h
    have h0 := h 0 x (by simp)
    simp only [Nat.add_zero] at h0
    simp only [List.length_cons, loadCellsFrom, Sem.run_bind, run_load, h0, Result.andThen_ok]
    rw [ih p (i + 1) (acc.push x) (fun j v hj => by have := h (j + 1) v (by simpa using hj); rwa [show i + (j + 1) = i + 1 + j by omega] at this)]
    simp
theorem getElem_slice {cs : List A} {off n j : Nat} {x : A} (h : ((cs.take (off + n)).drop off)[j]? = some x) : cs[off + j]? = some x := by
  rw [List.getElem?_drop] at h
  rw [List.getElem?_take] at h
  split at h
  · exact h
  · cases h
theorem length_slice {cs : List A} {off n : Nat} (h : off + n ≤ cs.length) : ((cs.take (off + n)).drop off).length = n := by
  simp; omega
theorem ok_slice {cs : List A} {p : A → Prop} {off n : Nat} (h : ∀ x ∈ cs, p x) : ∀ x ∈ (cs.take (off + n)).drop off, p x :=
  fun x hx => h x (List.mem_of_mem_take (List.mem_of_mem_drop hx))
theorem WSat.ok_cells (h : WSat c β H w) {i : Nat} {cs : List A} {ty : TypeId} {mk : Bool} (hb : H[i]? = some (.cells cs ty mk)) : ∀ x ∈ cs, x.fit β H.length := Ob.cells_fit (h.ok i _ hb)
theorem getElem?_mem_ok {cs : List A} {p : A → Prop} {j : Nat} {x : A} (h : cs[j]? = some x) (hc : ∀ x ∈ cs, p x) : p x := hc x (List.mem_of_getElem? h)
theorem run_loadVar_one {P : Program} {w : World} {t : TypeId} {p : Addr} {v : Value} (ht : aggOf P t = some false) (hc : w.cell? p = some v) : (loadVar t p).run P w = .ok v w := by
  simp [loadVar, aggOf_sound ht, hc]
theorem run_loadVar_agg {P : Program} {w : World} {t : TypeId} {p : Addr} {q : TypeInfo} {xs : List Value} (ht : aggOf P t = some true) (hq : P.info? t = some q) (hl : xs.length = q.size)
    (hc : ∀ j v, xs[j]? = some v → w.cell? (p.add j) = some v) : (loadVar t p).run P w = .ok (.agg xs.toArray) w := by
  have := run_loadCells (P := P) (w := w) xs p 0 #[] (fun j v hj => by rw [Nat.zero_add]; exact hc j v hj)
  rw [hl] at this
  simp [loadVar, aggOf_sound ht, sizeOf, typeInfo, hq, loadCells, this]

theorem loadx_sound {t : TypeId} {x : V} {K : V → Prop} (h : loadx c.P c.ro H t x K) :
    ∃ v, K v ∧ ∀ β w, WSat c β H w → x.gh β → v.fit β H.length ∧ ∃ p, x.val β = .pointer (some p) ∧ (loadVar t p).run c.P w = .ok (v.val β) w := by
  unfold loadx at h
  split at h
  · rename_i i off
    split at h
    · rename_i cs ty mk hb
      split at h
      · rename_i ht
        obtain ⟨x, hx, hk⟩ := optx_elim h
        refine ⟨_, hk, fun β w hw hg => ?_⟩
        obtain ⟨b, eb, ea⟩ := adr_get hg off
        exact ⟨getElem?_mem_ok hx (hw.ok_cells hb), _, congrArg _ ea, run_loadVar_one ht (hw.cell hb eb hx)⟩
      · rename_i q ht hq
        obtain ⟨hl, hk⟩ := needx_elim h
        have hl' : off + q.size ≤ cs.length := of_decide_eq_true hl
        refine ⟨_, hk, fun β w hw hg => ?_⟩
        obtain ⟨b, eb, ea⟩ := adr_get hg off
        refine ⟨V.fit_g (ok_slice (hw.ok_cells hb)), _, congrArg _ ea, ?_⟩
        refine run_loadVar_agg (xs := ((cs.take (off + q.size)).drop off).map (A.val β)) ht hq (by rw [List.length_map]; exact length_slice hl') (fun j v hj => ?_)
        rw [List.getElem?_map] at hj
        obtain ⟨x, hx, rfl⟩ := Option.map_eq_some_iff.1 hj
        rw [add_none]
        exact hw.cell hb eb (getElem_slice hx)
      · exact h.elim
    · exact h.elim
  · rename_i p
    split at h
    · rename_i ht
      obtain ⟨x, hx, hk⟩ := h
      exact ⟨_, hk, fun β w hw _ => ⟨A.fit_of0 (hw.ro.ext p x hx), _, rfl, run_loadVar_one ht (hw.rcell hx)⟩⟩
    · rename_i q ht hq
      obtain ⟨xs, hl, hx, hk⟩ := h
      refine ⟨_, hk, fun β w hw _ => ⟨V.fit_g fun y hy => ?_, _, rfl, ?_⟩⟩
      · obtain ⟨j, hj⟩ := List.getElem?_of_mem hy
        exact A.fit_of0 (hw.ro.ext _ y (hx j y hj))
      · refine run_loadVar_agg (xs := xs.map (A.val β)) ht hq (by rw [List.length_map]; exact hl) (fun j v hj => ?_)
        rw [List.getElem?_map] at hj
        obtain ⟨x, hx', rfl⟩ := Option.map_eq_some_iff.1 hj
        exact hw.rcell (hx j x hx')
    · exact h.elim
  · exact h.elim
theorem op_load {t : TypeId} {x : Operand} (ho : o.op = .load t x) (h : optx (rho F x) fun v => loadx c.P c.ro H t v fun r => K r H) : Still c o F H K := by
  obtain ⟨v, hv, h⟩ := optx_elim h
  obtain ⟨r, hk, h⟩ := loadx_sound h
  refine ⟨r, hk, fun β a w hw hf => ?_⟩
  obtain ⟨hr, p, hp, hrun⟩ := h β w hw (rho_sound hf hv).2.2
  refine ⟨hr, ?_⟩
  have hx := (rho_sound hf hv).1
  simp [execOp, ho, Instr.loadAt, Instr.sureAddr, hx, hp, hrun]

theorem storeL_length : ∀ (xs : List A) (cs : List A) (o : Nat), (storeL cs o xs).length = cs.length
  | [], _, _ => rfl
  | x :: xs, cs, o => by simp [storeL, storeL_length xs]
theorem storeL_ok {p : A → Prop} : ∀ (xs : List A) (cs : List A) (o : Nat), (∀ x ∈ cs, p x) → (∀ x ∈ xs, p x) → ∀ x ∈ storeL cs o xs, p x
  | [], _, _, h, _ => h
  | x :: xs, cs, o, h, h' => storeL_ok xs (cs.set o x) (o + 1) (fun y hy => by
      rcases List.mem_or_eq_of_mem_set hy with hy | rfl
      · exact h y hy
      · exact h' y (by simp)) (fun y hy => h' y (by simp [hy]))
/-- Cells are stored one behind the other. -/
theorem run_storeCells {P : Program} {b off : Nat} {ty : TypeId} {mk : Bool} (xs : List A) : ∀ (w : World) (cs : List A) (i : Nat),
    w.heap[b]? = some (.cells (cs.map (A.val β)).toArray ty (fz mk cs.length)) → off + i + xs.length ≤ cs.length →
    ∃ w', (storeCells ⟨b, off, none⟩ (xs.map (A.val β)) i).run P w = .ok () w' ∧ (w'.os = w.os ∧ w'.tape = w.tape ∧ w'.output = w.output) ∧ w'.heap.size = w.heap.size ∧
      w'.heap[b]? = some (.cells ((storeL cs (off + i) xs).map (A.val β)).toArray ty (fz mk cs.length)) ∧ ∀ k, k ≠ b → w'.heap[k]? = w.heap[k]? := by
  induction xs with
  | nil => intro w cs i hb _; exact ⟨w, rfl, ⟨rfl, rfl, rfl⟩, rfl, hb, fun _ _ => rfl⟩
  | cons x xs ih =>
    intro w cs i hb hl
    simp only [List.length_cons] at hl
    have hlt : off + i < cs.length := by omega
    have hc : w.cell? ⟨b, off + i, none⟩ = some (cs[off + i].val β) := by simp [World.cell?, hb, hlt]
    have hf : w.frozen? ⟨b, off + i, none⟩ = false := by
      simp only [World.frozen?, hb, fz]
      cases mk <;> simp
      omega
    have hb' : (w.setCell ⟨b, off + i, none⟩ (x.val β)).heap[b]? = some (.cells ((cs.set (off + i) x).map (A.val β)).toArray ty (fz mk (cs.set (off + i) x).length)) := by
      simp only [World.setCell]
      rw [Array.getElem?_modify, if_pos rfl, hb]
      simp [List.map_set]
    obtain ⟨w', hr, ho, hs, hbb, hk⟩ := ih (w.setCell ⟨b, off + i, none⟩ (x.val β)) (cs.set (off + i) x) (i + 1) hb' (by simp; omega)
    refine ⟨w', ?_, ho, by rw [hs]; simp, ?_, fun k hk' => ?_⟩
    · simp only [List.map_cons, storeCells, Sem.run_bind, add_none]
      rw [run_store _ _ _ _ _ (A.val_one β x), hc]
      simp only [hf, Bool.false_eq_true, if_false, Result.andThen_ok]
      exact hr
    · simpa [storeL, Nat.add_assoc] using hbb
    · rw [hk k hk']
      simp only [World.setCell]
      rw [Array.getElem?_modify, if_neg (fun e => hk' e.symm)]

theorem storex_sound (hw : WSat c β H w) {t : TypeId} {x v : V} (hg : x.gh β) (hv : v.fit β H.length) {K : Hp → Prop} (h : storex c.P H t x v K) :
    ∃ p H' w', x.val β = .pointer (some p) ∧ K H' ∧ (storeVar t p (v.val β)).run c.P w = .ok () w' ∧ Mv c β H w β H' w' := by
  unfold storex at h
  split at h
  · rename_i i off
    split at h
    · rename_i cs ty mk xs q hb hx hq
      obtain ⟨hl, hk⟩ := needx_elim h
      simp only [Bool.and_eq_true, beq_iff_eq, decide_eq_true_eq] at hl
      have hi := hw.lenOf hb
      obtain ⟨b, eb, ea⟩ := adr_get hg off
      obtain ⟨w', hr, ho, hs, hbb, hkk⟩ := run_storeCells (P := c.P) (off := off) xs w cs 0 (by simpa [Ob.obj] using hw.blk i b _ hb eb) (by omega)
      refine ⟨_, _, w', congrArg _ ea, hk, ?_, hw.setBlk hi (.cells (storeL cs off xs) ty mk) (Ob.fit_cells (storeL_ok _ _ _ (hw.ok_cells hb) (V.cells_fit hx hv))) (fun e => by rw [eb] at e; cases e) ho hs (fun b' eb' => ?_) (fun k hk' => hkk k fun e => hk' (by rw [eb, e]))⟩
      · have hsz : (v.val β).cells = (xs.map (A.val β)).toArray := V.val_cells hx
        simp [storeVar, sizeOf, typeInfo, hq, hsz, hl.1, hr]
      · rw [eb] at eb'; injection eb' with eb'; subst eb'; simpa [Ob.obj, storeL_length] using hbb
    · exact h.elim
  · exact h.elim
theorem op_store {t : TypeId} {x y : Operand} {p v : V} (ho : o.op = .store t x y) (hx : rho F x = some p) (hy : rho F y = some v) (h : storex c.P H t p v fun H' => K (.t []) H') : OpOK c o F H K := by
  intro β a w hw hf next Q hn
  obtain ⟨hx', _, hg⟩ := rho_sound hf hx
  obtain ⟨hy', hv⟩ := rho_sound hf hy
  obtain ⟨p', H', w', hp, hk, hr, hm⟩ := storex_sound hw hg hv h
  have hrun : (execOp a.eval o).run c.P w = .ok .skip w' := by simp [execOp, ho, Instr.storeAt, Instr.sureAddr, hx', hy', hp, hr]
  simp only [Oper.wp, hrun, Oper.upon]
  exact hn (.t []) H' β w' hk (V.fit_t fun x hx => by cases hx) hm
end opers
end Go.Eng
