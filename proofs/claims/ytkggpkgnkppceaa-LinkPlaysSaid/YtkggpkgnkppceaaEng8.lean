/- The engine, part 8: copy, clear, calls; all operations; regions. -/
import Derived.Test.YtkggpkgnkppceaaEng7
set_option linter.unusedVariables false
namespace Go.Eng
section opers
variable {c : Ctx} {o : Oper} {β : Num} {F : Frm} {H : Hp} {a : Act} {w : World} {K : V → Hp → Prop}

theorem copy_sound (hw : WSat c β H w) {ts : Array TypeId} {ty : TypeId} {x y : A} (gx : x.gh β) (gy : y.gh β) (h : copyx c.P c.ro ts H x y K) : Does c β H w (Builtin.copy_ ts ty #[x.val β, y.val β]) K := by
  unfold copyx at h
  split at h
  · rename_i t ht
    split at h
    · rename_i e hu
      split at h
      · rename_i q d m hq hd hm
        obtain ⟨new, h, hlen, hnok, hnewd⟩ := srcx_sound hw gy (fun m' hm' => by rw [hm] at hm'; injection hm' with e; rw [← e]; exact Nat.min_le_left m d) h
        have hnew := hnewd w.drawn
        have hlo := lenOf_sound (β := β) hm c.P w
        have go : ∀ A0 cap, x.val β = .slice A0 d cap → (Builtin.copy_ ts ty #[x.val β, y.val β]).run c.P w =
            (match A0 with
              | some p => ((storeCells p (new.map (A.val β))).run c.P w).andThen fun _ w' => .ok (.int .i64 (Nat.min m d : Nat)) w'
              | none => .ok (.int .i64 (Nat.min m d : Nat)) w) := by
          intro A0 cap hx
          rw [hx]
          unfold Builtin.copy_
          simp only [List.getElem?_toArray, List.getElem?_cons_zero, List.getElem?_cons_succ, ht]
          simp only [Sem.run_bind, underlying, run_program, Result.andThen_ok, hu, Sem.run_pure, sizeOf, typeInfo, hq, hlo, hnew]
          cases A0 with
          | none => rfl
          | some p => simp only [Sem.run_bind, Sem.run_pure, goInt]
        cases x with
        | nils =>
          simp only [lenA, Option.some.injEq] at hd
          subst hd
          refine ⟨_, _, _, w, h, ⟨trivial, trivial⟩, Mv.refl hw, ?_⟩
          rw [go none 0 rfl]
          rfl
        | slc b off n cap =>
          simp only [lenA, Option.some.injEq] at hd
          subst hd
          simp only at h
          split at h
          · rename_i cs ty' mk hbk
            obtain ⟨hbd, h⟩ := needx_elim h
            have hbd' : off + new.length ≤ cs.length := of_decide_eq_true hbd
            cases eb : β b with
            | none =>
              obtain ⟨hnil, mv⟩ := keep_row hw hbk eb hbd'
              refine ⟨_, _, _, w, h, ⟨trivial, trivial⟩, mv, ?_⟩
              rw [go none cap (by rw [A.val_slc, adr_none eb])]
              rfl
            | some bb =>
              obtain ⟨w', hr, mv⟩ := store_row hw eb hbk hbd' hnok
              refine ⟨_, _, _, w', h, ⟨trivial, trivial⟩, mv, ?_⟩
              rw [go (some ⟨bb, off, none⟩) cap (by rw [A.val_slc, adr_some eb])]
              simp only [hr]
              rfl
          · exact h.elim
        | _ => exact h.elim
      · exact h.elim
    · exact h.elim
  · exact h.elim
theorem clear_sound (hw : WSat c β H w) {ts : Array TypeId} {ty : TypeId} {x : A} (gx : x.gh β) (h : clearx c.P ts H x K) : Does c β H w (Builtin.clear_ ts ty #[x.val β]) K := by
  unfold clearx at h
  split at h
  · rename_i t ht
    split at h
    · rename_i e hu
      refine ⟨_, _, _, w, h, V.fit_t (fun x hx => by cases hx), Mv.refl hw, ?_⟩
      simp [Builtin.clear_, ht, underlying, hu, A.val, V.val]
    · rename_i e b off n cap hu
      split at h
      · refine ⟨_, _, _, w, h, V.fit_t (fun x hx => by cases hx), Mv.refl hw, ?_⟩
        cases ea : adr β b off <;> simp [Builtin.clear_, ht, underlying, hu, A.val, V.val, ea]
      · rename_i n
        split at h
        · rename_i q zs cs ty' mk hq hz hbk
          obtain ⟨hb, h⟩ := needx_elim h
          simp only [Bool.and_eq_true, beq_iff_eq, bne_iff_ne, ne_eq, decide_eq_true_eq] at hb
          obtain ⟨q', z, hi, hv, hc, hok⟩ := zeros_sound hz
          rw [hq] at hi
          obtain rfl := Option.some.inj hi
          have hne : zs.length ≠ 0 := by rw [hb.1.1]; exact hb.1.2
          have hzc := zeroCells_val (β := β) hne (hc β) (n + 1)
          rw [hb.1.1] at hzc
          obtain ⟨bb, eb, _⟩ := adr_get (β := β) (i := b) (fun e => by have := (gx e).1; omega) 0
          obtain ⟨w', hr, mv⟩ := store_row hw eb hbk (by rw [repl_length]; exact hb.2) (repl_ok (fun x hx => A.fit_of0 (hok x hx)) ((n + 1) * q.size))
          refine ⟨_, _, _, w', h, V.fit_t (fun x hx => by cases hx), mv, ?_⟩
          unfold Builtin.clear_
          simp only [List.getElem?_toArray, List.getElem?_cons_zero, ht]
          simp only [Sem.run_bind, underlying, run_program, Result.andThen_ok, hu, Sem.run_pure, A.val, adr_some eb, zeroValue, typeInfo, hq, hv, hzc, hr]
          rfl
        · exact h.elim
    · exact h.elim
  · exact h.elim

/-- Builtins that only look at a value. -/
def stillB : Builtin → Bool
  | .len | .cap | .max | .min | .complex | .real | .imag => true
  | _ => false
theorem op_builtin_still {b : Builtin} {args : Array Operand} {ts : Array TypeId} (ho : o.op = .call ⟨.builtin b, args, ts⟩) {vs : List V} (hv : rhos F args.toList = some vs) (hs : stillB b = true) (h : builtx c.P c.ro b ts vs H K) : Pure c o F H K := by
  unfold builtx at h
  split at h
  · rename_i x
    obtain ⟨r, hk, hok, hr⟩ := lenx_sound h o.type
    refine ⟨r, hk, fun β a w hf => ⟨V.fit_of0 hok, ?_⟩⟩
    obtain ⟨cs, he⟩ := run_builtin_call ho hf hv
    rw [he]
    have := hr w β
    simp [Go.builtin, this]
  · rename_i x
    obtain ⟨r, hk, hok, hr⟩ := capx_sound h o.type
    refine ⟨r, hk, fun β a w hf => ⟨V.fit_of0 hok, ?_⟩⟩
    obtain ⟨cs, he⟩ := run_builtin_call ho hf hv
    rw [he]
    have := hr w β
    simp [Go.builtin, this]
  · cases hs
  · cases hs
  · cases hs
  · rename_i k x k' y
    refine ⟨_, h, fun β a w hf => ⟨⟨trivial, trivial⟩, ?_⟩⟩
    obtain ⟨cs, he⟩ := run_builtin_call ho hf hv
    rw [he]
    simp [Go.builtin, Builtin.max_, Builtin.max2, V.val_a, A.val]
  · rename_i k x k' y
    refine ⟨_, h, fun β a w hf => ⟨⟨trivial, trivial⟩, ?_⟩⟩
    obtain ⟨cs, he⟩ := run_builtin_call ho hf hv
    rw [he]
    simp [Go.builtin, Builtin.min_, Builtin.min2, V.val_a, A.val]
  · rename_i k x k' y
    obtain ⟨h⟩ := h
    cases hc : k.format.order x y with
    | none => rw [hc] at h; exact h.elim
    | some d =>
      rw [hc] at h
      cases d <;>
        (refine ⟨_, h, fun β a w hf => ⟨⟨trivial, trivial⟩, ?_⟩⟩
         obtain ⟨cs, he⟩ := run_builtin_call ho hf hv
         rw [he]
         simp [Go.builtin, Builtin.max_, Builtin.max2, V.val_a, A.val, hc])
  · rename_i k x k' y
    obtain ⟨h⟩ := h
    cases hc : k.format.order x y with
    | none => rw [hc] at h; exact h.elim
    | some d =>
      rw [hc] at h
      cases d <;>
        (refine ⟨_, h, fun β a w hf => ⟨⟨trivial, trivial⟩, ?_⟩⟩
         obtain ⟨cs, he⟩ := run_builtin_call ho hf hv
         rw [he]
         simp [Go.builtin, Builtin.min_, Builtin.min2, V.val_a, A.val, hc])
  · rename_i k x k' y
    obtain ⟨hb, hk⟩ := needx_elim h
    have hb' : k = k' := of_decide_eq_true hb
    subst hb'
    refine ⟨_, hk, fun β a w hf => ⟨⟨trivial, trivial⟩, ?_⟩⟩
    obtain ⟨cs, he⟩ := run_builtin_call ho hf hv
    rw [he]
    cases k <;> rfl
  · refine ⟨_, h, fun β a w hf => ⟨⟨trivial, trivial⟩, ?_⟩⟩
    obtain ⟨cs, he⟩ := run_builtin_call ho hf hv
    rw [he]
    rfl
  · refine ⟨_, h, fun β a w hf => ⟨⟨trivial, trivial⟩, ?_⟩⟩
    obtain ⟨cs, he⟩ := run_builtin_call ho hf hv
    rw [he]
    rfl
  · rename_i x y
    rcases condx_elim h with ⟨hb, hk⟩ | ⟨hb, hk⟩
    · refine ⟨_, hk, fun β a w hf => ⟨⟨trivial, trivial⟩, ?_⟩⟩
      obtain ⟨cs, he⟩ := run_builtin_call ho hf hv
      rw [he]
      simp only [Bool.not_eq_true'] at hb
      simp [Go.builtin, Builtin.max_, Builtin.max2, V.val_a, A.val, Op.stringOp, Go.ByteArray.toList_eq, asBool, hb]
    · refine ⟨_, hk, fun β a w hf => ⟨⟨trivial, trivial⟩, ?_⟩⟩
      obtain ⟨cs, he⟩ := run_builtin_call ho hf hv
      rw [he]
      simp only [Bool.not_eq_false'] at hb
      simp [Go.builtin, Builtin.max_, Builtin.max2, V.val_a, A.val, Op.stringOp, Go.ByteArray.toList_eq, asBool, hb]
  · exact h.elim
theorem op_builtin {b : Builtin} {args : Array Operand} {ts : Array TypeId} (ho : o.op = .call ⟨.builtin b, args, ts⟩) {vs : List V} (hv : rhos F args.toList = some vs) (h : builtx c.P c.ro b ts vs H K) : OpOK c o F H K := by
  by_cases hs : stillB b = true
  · exact (op_builtin_still ho hv hs h).still.ok
  unfold builtx at h
  split at h
  · exact absurd rfl hs
  · exact absurd rfl hs
  · rename_i x y
    intro β a w hw hf next Q hn
    obtain ⟨cs, he⟩ := run_builtin_call ho hf hv
    obtain ⟨v, H', β', w', hk, hv', mv, hr⟩ := append_sound (ty := o.type) hw ((rhos_sound hf hv).2 (.a x) (by simp)) ((rhos_sound hf hv).2 (.a y) (by simp)).2 h
    have : (execOp a.eval o).run c.P w = .ok (.value (v.val β')) w' := by
      rw [he]
      simp only [Go.builtin, List.map_cons, List.map_nil, V.val_a, Sem.run_bind]
      rw [hr]
      rfl
    simp only [Oper.wp, this, Oper.upon]
    exact hn v H' β' w' hk hv' mv
  · rename_i x y
    intro β a w hw hf next Q hn
    obtain ⟨cs, he⟩ := run_builtin_call ho hf hv
    obtain ⟨v, H', β', w', hk, hv', mv, hr⟩ := copy_sound (ty := o.type) hw ((rhos_sound hf hv).2 (.a x) (by simp)).2 ((rhos_sound hf hv).2 (.a y) (by simp)).2 h
    have : (execOp a.eval o).run c.P w = .ok (.value (v.val β')) w' := by
      rw [he]
      simp only [Go.builtin, List.map_cons, List.map_nil, V.val_a, Sem.run_bind]
      rw [hr]
      rfl
    simp only [Oper.wp, this, Oper.upon]
    exact hn v H' β' w' hk hv' mv
  · rename_i x
    intro β a w hw hf next Q hn
    obtain ⟨cs, he⟩ := run_builtin_call ho hf hv
    obtain ⟨v, H', β', w', hk, hv', mv, hr⟩ := clear_sound (ty := o.type) hw ((rhos_sound hf hv).2 (.a x) (by simp)).2 h
    have : (execOp a.eval o).run c.P w = .ok (.value (v.val β')) w' := by
      rw [he]
      simp only [Go.builtin, List.map_cons, List.map_nil, V.val_a, Sem.run_bind]
      rw [hr]
      rfl
    simp only [Oper.wp, this, Oper.upon]
    exact hn v H' β' w' hk hv' mv
  · exact absurd rfl hs
  · exact absurd rfl hs
  · exact absurd rfl hs
  · exact absurd rfl hs
  · exact absurd rfl hs
  · exact absurd rfl hs
  · exact absurd rfl hs
  · exact absurd rfl hs
  · exact h.elim

/-- A contract, used at a call. -/
theorem Fn.use {P : Program} {ro : Addr → A → Prop} {f : FuncId} {args : List V} {K : V → Hp → Prop} (h : Fn P ro f args H K) (hP : c.P = P) (hro : c.ro = ro) (hw : WSat c β H w) (hok : ∀ v ∈ args, v.fit β H.length) :
    Calls P f (args.map (V.val β)).toArray w fun e w' => ∃ v H' β', K v H' ∧ e = .returned (v.val β') ∧ v.fit β' H'.length ∧ Mv c β H w β' H' w' := by
  subst hP hro
  replace h := h.run
  have roOK : RoOK c.ro β H.length w := by
    refine ⟨hw.ro.spot, hw.ro.ext, fun p x hx => hw.rcell hx, fun p x hx i hi => hw.rout hx hi⟩
  have hw' : WSat { P := c.P, ro := c.ro, n0 := H.length, β0 := β, w0 := w, nt := 0 } β H w :=
    ⟨hw.inj, hw.blk, hw.bare, hw.ok, fun _ _ => rfl, Nat.le_refl _, Fr.refl _ _ _, fun i b h1 h2 => absurd h2 (Nat.not_lt.2 h1), roOK⟩
  refine (h β w hok hw').mono ?_
  rintro e w' ⟨v, H', β', hk, he, hv, mv⟩
  refine ⟨v, H', β', hk, he, hv, ⟨?_, mv.agree, mv.len, mv.fr, mv.new⟩⟩
  have ms := mv.sat
  refine ⟨ms.inj, ms.blk, ms.bare, ms.ok, fun i hi => ?_, Nat.le_trans hw.n0 mv.len, ?_, fun i b hi hl e => ?_, hw.ro⟩
  · rw [mv.agree i (Nat.lt_of_lt_of_le hi hw.n0)]
    exact hw.base i hi
  · have f1 := hw.fr
    have f2 := ms.fr
    refine ⟨f2.os.trans f1.os, f2.tape.trans f1.tape, f2.output.trans f1.output, Nat.le_trans f1.size f2.size, fun k hk hn => ?_⟩
    have hne : ∀ i, i < H.length → β i ≠ some k := by
      intro i hi e
      rcases Nat.lt_or_ge i c.n0 with h' | h'
      · exact hn i h' (by rw [← hw.base i h']; exact e)
      · have := hw.new i k h' hi e; omega
    have := f2.keep k (Nat.lt_of_lt_of_le hk f1.size) hne
    exact this.trans (f1.keep k hk hn)
  · rcases Nat.lt_or_ge i H.length with h' | h'
    · rw [mv.agree i h'] at e
      exact hw.new i b hi h' e
    · exact Nat.le_trans hw.fr.size (ms.new i b h' hl e)
theorem op_call {f : Operand} {args : Array Operand} {ts : Array TypeId} (ho : o.op = .call ⟨.value f, args, ts⟩) {vs : List V} (hv : rhos F args.toList = some vs) {g : FuncId} {caps : List (Nat × Nat)} (hf : rho F f = some (.a (.clo g caps)))
    {fn : Func} (hfn : c.P.funcs[g]? = some fn) {body : Code} (hbody : fn.body = some body) (h : needx (fn.name != "runtime.NumGoroutine") (Fn c.P c.ro g (vs ++ caps.map fun q => .a (.ptr q.1 q.2)) H K)) : OpOK c o F H K := by
  obtain ⟨hb, h⟩ := needx_elim h
  simp only [bne_iff_ne, ne_eq] at hb
  intro β a w hw hF next Q hn
  obtain ⟨e, hok⟩ := rhos_sound hF hv
  obtain ⟨ef, hokf⟩ := rho_sound hF hf
  have e2 : args.map a.eval = (vs.map (V.val β)).toArray := by
    apply Array.toList_inj.1
    simpa using e
  have hnone : fn.body.isNone = false := by simp [hbody]
  have hname : (fn.name == "runtime.NumGoroutine") = false := by simpa using hb
  have hrun : (execOp a.eval o).run c.P w = .ok (.enter g ((vs ++ caps.map fun q => V.a (.ptr q.1 q.2)).map (V.val β)).toArray) w := by
    simp only [execOp, ho, resolve, Sem.run_bind, ef, V.val_a, A.val, Deferred.ofValue, Sem.run_pure, Result.andThen_ok, invoke, e2, callFunc, run_program, hfn, hname, hnone, Bool.false_eq_true, if_false]
    simp [V.val_a, A.val_ptr]
  simp only [Oper.wp, hrun, Oper.upon]
  refine (h.use rfl rfl hw ?_).mono ?_
  · intro v hv'
    rcases List.mem_append.1 hv' with hv' | hv'
    · exact hok v hv'
    · obtain ⟨q, hq, rfl⟩ := List.mem_map.1 hv'
      exact ⟨hokf.1 q hq, hokf.2 q hq⟩
  · rintro e w' ⟨v, H', β', hk, rfl, hv', mv⟩
    exact hn v H' β' w' hk hv' mv
theorem op_ext {f : Operand} {args : Array Operand} {ts : Array TypeId} (ho : o.op = .call ⟨.value f, args, ts⟩) {vs : List V} (hv : rhos F args.toList = some vs) {g : FuncId} (hf : rho F f = some (.a (.clo g [])))
    {fn : Func} (hfn : c.P.funcs[g]? = some fn) (hbody : fn.body = none) (h : extx c.P fn vs fun v => K v H) : OpOK c o F H K := by
  obtain ⟨hname, hnx, x, hx, h⟩ := h.run
  refine OpOK.valueD fun β a w hw hF => ?_
  obtain ⟨r, d, hk, hr, hrun⟩ := h β w
  refine ⟨r, d, hk, V.fit_of0 hr, ?_⟩
  obtain ⟨e, hok⟩ := rhos_sound hF hv
  obtain ⟨ef, hokf⟩ := rho_sound hF hf
  have e2 : args.map a.eval = (vs.map (V.val β)).toArray := by
    apply Array.toList_inj.1
    simpa using e
  have hnone : fn.body.isNone = true := by simp [hbody]
  have e3 : #[] ++ (vs.map (V.val β)).toArray ++ (List.map (fun (q : Nat × Nat) => Value.pointer (adr β q.1 q.2)) []).toArray = (vs.map (V.val β)).toArray := by simp
  simp only [execOp, ho, resolve, Sem.run_bind, ef, V.val_a, A.val, Deferred.ofValue, Sem.run_pure, Result.andThen_ok, invoke, e2, callFunc, run_program, hfn, hname, hnone, Bool.false_eq_true, if_false, if_true, run_mark, hnx, hx]
  rw [e3, hrun]
  rfl
/-- A range over a text begins. -/
theorem op_range {t : TypeId} {X : Operand} {s : ByteArray} (ho : o.op = .range t X) (hu : c.P.underlying t = some .string) (hx : rho F X = some (.a (.str s))) (h : K (.a (.ptr H.length 0)) (H ++ [.iter s 0])) : OpOK c o F H K := by
  intro β a w hw hf next Q hn
  have hx' := (rho_sound hf hx).1
  have hr : (execOp a.eval o).run c.P w = .ok (.value (.pointer (some ⟨w.heap.size, 0, none⟩))) (w.alloc (.stringIter s 0)) := by
    simp [execOp, ho, hx', V.val_a, A.val, Instr.range, underlying, hu]
  simp only [Oper.wp, hr, Oper.upon]
  have mv := hw.alloc (.iter s 0) ⟨trivial, trivial⟩
  have := hn (.a (.ptr H.length 0)) _ _ _ h (by simpa using fit_new (β := β)) mv
  simpa [V.val_a, A.val_ptr, adr_new, Ob.obj] using this
/-- Its next rune. -/
theorem op_next {X : Operand} {i : Nat} {s : ByteArray} {pos : Nat} (ho : o.op = .next X true) (hx : rho F X = some (.a (.ptr i 0))) (hb : H[i]? = some (.iter s pos))
    (h : condx (decide (pos < s.size)) (K (.t [.a (.bool true), .a (.int .i64 (pos : Int)), .a (.int .i32 (runeAt s pos : Nat))]) (H.set i (.iter s (pos + runeW s pos)))) (K (.t [.a (.bool false)]) H)) : OpOK c o F H K := by
  intro β a w hw hf next Q hn
  have hx' := (rho_sound hf hx).1
  have hgx := (rho_sound hf hx).2.2
  obtain ⟨bb, eb, ea⟩ := adr_get hgx 0
  have hbl := hw.blk i bb _ hb eb
  have hi := hw.lenOf hb
  rcases condx_elim h with ⟨hc, h⟩ | ⟨hc, h⟩
  · have hc' : pos < s.size := of_decide_eq_true hc
    have hlt := hw.lt hi eb
    have hr : (execOp a.eval o).run c.P w = .ok (.value (.tuple #[.bool true, .int .i64 (pos : Int), .int .i32 (runeAt s pos : Nat)])) { w with heap := w.heap.setIfInBounds bb (.stringIter s (pos + runeW s pos)) } := by
      unfold runeAt runeW
      simp [execOp, ho, hx', V.val_a, A.val, ea, Instr.next, getObj, setObj, Sem.run, hbl, Ob.obj, hc', goInt]
    have mv := hw.setBlk hi (.iter s (pos + runeW s pos)) ⟨trivial, trivial⟩ (fun e => by rw [eb] at e; cases e) (w' := { w with heap := w.heap.setIfInBounds bb (.stringIter s (pos + runeW s pos)) }) ⟨rfl, rfl, rfl⟩ (by simp) (fun b' eb' => by rw [eb] at eb'; injection eb' with eb'; subst eb'; simp [Ob.obj, hlt]) (fun k hk => by
      have hk' : bb ≠ k := fun e => hk (by rw [eb, e])
      simp [hk'])
    simp only [Oper.wp, hr, Oper.upon]
    have := hn _ _ _ _ h (V.fit_of0 (by simp [V.ok, E.ok, A.ok])) mv
    simpa [V.val, E.val, A.val] using this
  · have hc' : ¬ pos < s.size := of_decide_eq_false hc
    have hr : (execOp a.eval o).run c.P w = .ok (.value (.tuple #[.bool false])) w := by
      simp [execOp, ho, hx', V.val_a, A.val, ea, Instr.next, getObj, Sem.run, hbl, Ob.obj, hc']
    simp only [Oper.wp, hr, Oper.upon]
    have := hn _ _ _ _ h (V.fit_of0 (by simp [V.ok, E.ok, A.ok])) (Mv.refl hw)
    simpa [V.val, E.val, A.val] using this
end opers
end Go.Eng
