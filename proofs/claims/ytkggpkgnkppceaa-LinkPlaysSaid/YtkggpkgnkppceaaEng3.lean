/- The engine, part 3: addresses, parts, numbers. -/
import Derived.Test.YtkggpkgnkppceaaEng2
import Derived.Laws.Strings
set_option linter.unusedVariables false
namespace Go.Eng
section opers
variable {c : Ctx} {o : Oper} {β : Num} {F : Frm} {H : Hp} {a : Act} {w : World} {K : V → Hp → Prop}

theorem op_nilCheck_ptr {x : Operand} {i off : Nat} (ho : o.op = .nilCheck x) (hx : rho F x = some (.a (.ptr i off))) (h : K (.a (.ptr i off)) H) : Pure c o F H K := by
  refine ⟨_, h, fun β a w hf => ⟨(rho_sound hf hx).2, ?_⟩⟩
  have hx' := (rho_sound hf hx).1
  obtain ⟨b, _, ea⟩ := adr_get (rho_sound hf hx).2.2 off
  simp [execOp, ho, hx', V.val_a, A.val_ptr, ea]
theorem op_nilCheck_rptr {x : Operand} {p : Addr} (ho : o.op = .nilCheck x) (hx : rho F x = some (.a (.rptr p))) (h : K (.a (.rptr p)) H) : Pure c o F H K := by
  refine ⟨_, h, fun β a w hf => ⟨(rho_sound hf hx).2, ?_⟩⟩
  have hx' := (rho_sound hf hx).1
  simp [execOp, ho, hx', V.val_a, A.val]

theorem op_field {t : TypeId} {x : Operand} {f : Nat} (ho : o.op = .fieldAddr t x f) (h : optx (rho F x) fun v => fieldx c.P t v f fun r => K (.a r) H) : Pure c o F H K := by
  obtain ⟨v, hv, h⟩ := optx_elim h
  unfold fieldx at h
  split at h
  · rename_i fs hu
    split at h
    · rename_i g hg
      split at h
      · rename_i q hq
        obtain ⟨hn, h⟩ := needx_elim h
        have hn' : q.size ≠ 0 := by simpa using hn
        split at h
        · rename_i i off
          refine ⟨_, h, fun β a w hf => ⟨(rho_sound hf hv).2, ?_⟩⟩
          have hx' := (rho_sound hf hv).1
          obtain ⟨b, eb, ea⟩ := adr_get (rho_sound hf hv).2.2 0
          simp [execOp, ho, Instr.fieldAt, underlying, hu, hg, Instr.sureAddr, hx', V.val_a, A.val_ptr, adr_some eb, fieldPlace, sizeOf, typeInfo, hq, hn', add_none]
        · rename_i p
          refine ⟨_, h, fun β a w hf => ⟨(rho_sound hf hv).2, ?_⟩⟩
          have hx' := (rho_sound hf hv).1
          simp [execOp, ho, Instr.fieldAt, underlying, hu, hg, Instr.sureAddr, hx', V.val_a, A.val, fieldPlace, sizeOf, typeInfo, hq, hn']
        · exact h.elim
      · exact h.elim
    · exact h.elim
  · exact h.elim

theorem partx_sound {P : Program} {t : TypeId} {cs : List A} {off : Nat} {K : V → Prop} (h : partx P t cs off K) :
    ∃ v, K v ∧ ∀ (β : Num) n, (∀ x ∈ cs, x.fit β n) → v.fit β n ∧ ∀ (w : World), (part t (cs.map (A.val β)).toArray off).run P w = .ok (v.val β) w := by
  unfold partx at h
  split at h
  · rename_i ht
    obtain ⟨x, hx, hk⟩ := optx_elim h
    refine ⟨_, hk, fun β n hok => ⟨getElem?_mem_ok hx hok, fun w => ?_⟩⟩
    simp [part, aggOf_sound ht, hx, V.val_a]
  · rename_i q ht hq
    refine ⟨_, h, fun β n hok => ⟨V.fit_g (ok_slice hok), fun w => ?_⟩⟩
    simp [part, aggOf_sound ht, sizeOf, typeInfo, hq, V.val, List.map_take, List.map_drop, List.drop_take]
  · exact h.elim
theorem op_fieldOf {t : TypeId} {x : Operand} {f : Nat} {cs : List A} {fs : Array Field} {g : Field} (ho : o.op = .field t x f) (hx : rho F x = some (.g cs)) (hu : c.P.underlying t = some (.struct fs)) (hg : fs[f]? = some g)
    (h : partx c.P g.type cs g.offset fun r => K r H) : Pure c o F H K := by
  obtain ⟨v, hk, h⟩ := partx_sound h
  refine ⟨v, hk, fun β a w hf => ?_⟩
  obtain ⟨hx', hok⟩ := rho_sound hf hx
  obtain ⟨hv, hr⟩ := h β _ (fun x hx => ⟨hok.1 x hx, hok.2 x hx⟩)
  exact ⟨hv, by simp [execOp, ho, Instr.field, underlying, hu, hg, asAgg, hx', V.val, hr w]⟩

theorem op_indexAddr {t : TypeId} {x i : Operand} {v : V} {k : IntKind} {n : Int} (ho : o.op = .indexAddr t x i) (hx : rho F x = some v) (hi : rho F i = some (.a (.int k n)))
    (h : idxAddrx c.P t v n fun r => K (.a r) H) : Pure c o F H K := by
  unfold idxAddrx at h
  split at h
  · rename_i m e hu
    split at h
    · rename_i q hq
      obtain ⟨hb, h⟩ := needx_elim h
      have hb' := of_decide_eq_true hb
      split at h
      · refine ⟨_, h, fun β a w hf => ⟨(rho_sound hf hx).2, ?_⟩⟩
        have hx' := (rho_sound hf hx).1
        have hi' := (rho_sound hf hi).1
        obtain ⟨b, eb, ea⟩ := adr_get (rho_sound hf hx).2.2 0
        simp [execOp, ho, Instr.indexAt, asIntOf, underlying, hu, hx', hi', V.val_a, A.val, adr_some eb, Instr.sureAddr, hb', sizeOf, typeInfo, hq, add_none]
      · refine ⟨_, h, fun β a w hf => ⟨⟨trivial, trivial⟩, ?_⟩⟩
        have hx' := (rho_sound hf hx).1
        have hi' := (rho_sound hf hi).1
        simp [execOp, ho, Instr.indexAt, asIntOf, underlying, hu, hx', hi', V.val_a, A.val, Instr.sureAddr, hb', sizeOf, typeInfo, hq]
      · exact h.elim
    · exact h.elim
  · rename_i e hu
    split at h
    · rename_i q hq
      split at h
      · obtain ⟨hb, h⟩ := needx_elim h
        have hb' := of_decide_eq_true hb
        refine ⟨_, h, fun β a w hf => ?_⟩
        obtain ⟨hx', hok⟩ := rho_sound hf hx
        have hi' := (rho_sound hf hi).1
        have hne : β _ ≠ none := fun e => by have := (hok.2 e).1; omega
        obtain ⟨b, eb, ea⟩ := adr_get hne 0
        refine ⟨⟨hok.1, hne⟩, ?_⟩
        simp [execOp, ho, Instr.indexAt, asIntOf, underlying, hu, hx', hi', V.val_a, A.val, adr_some eb, Instr.sureAddr, hb', sizeOf, typeInfo, hq, add_none]
      · obtain ⟨hb, h⟩ := needx_elim h
        have hb' := of_decide_eq_true hb
        refine ⟨_, h, fun β a w hf => ⟨⟨trivial, trivial⟩, ?_⟩⟩
        have hx' := (rho_sound hf hx).1
        have hi' := (rho_sound hf hi).1
        simp [execOp, ho, Instr.indexAt, asIntOf, underlying, hu, hx', hi', V.val_a, A.val, Instr.sureAddr, hb', sizeOf, typeInfo, hq]
      · exact h.elim
    · exact h.elim
  · exact h.elim

theorem op_index {t : TypeId} {x i : Operand} {v : V} {k : IntKind} {n : Int} (ho : o.op = .index t x i) (hx : rho F x = some v) (hi : rho F i = some (.a (.int k n)))
    (h : indexx c.P t v n fun r => K r H) : Pure c o F H K := by
  unfold indexx at h
  split at h
  · rename_i m e cs hu
    split at h
    · rename_i q hq
      obtain ⟨hb, h⟩ := needx_elim h
      have hb' := of_decide_eq_true hb
      obtain ⟨v, hk, h⟩ := partx_sound h
      refine ⟨v, hk, fun β a w hf => ?_⟩
      obtain ⟨hx', hok⟩ := rho_sound hf hx
      have hi' := (rho_sound hf hi).1
      obtain ⟨hv, hr⟩ := h β _ (fun x hx => ⟨hok.1 x hx, hok.2 x hx⟩)
      exact ⟨hv, by simp [execOp, ho, Instr.index, asIntOf, underlying, hu, hx', hi', A.val, V.val, hb', sizeOf, typeInfo, hq, hr w]⟩
    · exact h.elim
  · rename_i s hu
    obtain ⟨b, hb, hk⟩ := optx_elim h
    unfold byteAt at hb
    refine ⟨_, hk, fun β a w hf => ⟨⟨trivial, trivial⟩, ?_⟩⟩
    have hx' := (rho_sound hf hx).1
    have hi' := (rho_sound hf hi).1
    simp [execOp, ho, Instr.index, asIntOf, underlying, hu, hx', hi', V.val_a, A.val, hb]
  · exact h.elim

theorem op_extract {x : Operand} {i : Nat} {xs : List E} (ho : o.op = .extract x i) (hx : rho F x = some (.t xs)) (h : optx xs[i]? fun e => K e.toV H) : Pure c o F H K := by
  obtain ⟨e, he, hk⟩ := optx_elim h
  refine ⟨_, hk, fun β a w hf => ?_⟩
  obtain ⟨hx', hok⟩ := rho_sound hf hx
  refine ⟨E.toV_fit ⟨hok.1 e (List.mem_of_getElem? he), hok.2 e (List.mem_of_getElem? he)⟩, ?_⟩
  simp [execOp, ho, Instr.extract, hx', V.val, he]
  exact (E.toV_val β e).symm

theorem op_un {op : UnOp} {t : TypeId} {x : Operand} {y : A} (ho : o.op = .unOp op t x) (hx : rho F x = some (.a y)) (h : unx op y fun r => K (.a r) H) : Pure c o F H K := by
  unfold unx at h
  split at h
  · refine ⟨_, h, fun β a w hf => ⟨⟨trivial, trivial⟩, ?_⟩⟩
    have hx' := (rho_sound hf hx).1
    simp [execOp, ho, Op.unary, hx', V.val_a, A.val]
  · refine ⟨_, h, fun β a w hf => ⟨⟨trivial, trivial⟩, ?_⟩⟩
    have hx' := (rho_sound hf hx).1
    simp [execOp, ho, Op.unary, Op.intArith, hx', V.val_a, A.val]
  · refine ⟨_, h, fun β a w hf => ⟨⟨trivial, trivial⟩, ?_⟩⟩
    have hx' := (rho_sound hf hx).1
    simp [execOp, ho, Op.unary, Op.intBits, bitx, hx', V.val_a, A.val]
  · refine ⟨_, h, fun β a w hf => ⟨⟨trivial, trivial⟩, ?_⟩⟩
    have hx' := (rho_sound hf hx).1
    simp [execOp, ho, Op.unary, hx', V.val_a, A.val]
  · exact h.elim

/-- The world has drawn, and nothing else. -/
theorem OpOK.valueD {K : V → Hp → Prop} (h : ∀ β a w, WSat c β H w → FSat c β F H a → ∃ v d, K v H ∧ v.fit β H.length ∧ (execOp a.eval o).run c.P w = .ok (.value (v.val β)) { w with drawn := d }) : OpOK c o F H K := by
  intro β a w hw hf next Q hn
  obtain ⟨v, d, hk, hv, hr⟩ := h β a w hw hf
  simp only [Oper.wp, hr, Oper.upon]
  exact hn v H β _ hk hv ((Mv.refl hw).tick d)

theorem intx_sound {op : BinOp} {k : IntKind} {p q : Int} {K : A → Prop} (hs : op ≠ .shl) (hs' : op ≠ .shr) (h : intx op k p q K) (P : Program) (t : TypeId) :
    ∃ x, K x ∧ x.ok 0 ∧ ∀ (w : World) (β : Num), (Go.binOp op t (.int k p) (.int k q)).run P w = .ok (x.val β) w := by
  unfold intx at h
  split at h
  case h_4 | h_5 =>
    obtain ⟨hb, h⟩ := needx_elim h
    have hb' : q ≠ 0 := of_decide_eq_true hb
    refine ⟨_, h, trivial, fun w β => ?_⟩
    simp [Go.binOp, Op.intDiv, hb', A.val]
  all_goals first
    | exact h.elim
    | (refine ⟨_, h, trivial, fun w β => ?_⟩
       first
        | (simp [Go.binOp, Op.intArith, A.val]; done)
        | (simp [Go.binOp, Op.intBits, bitx, A.val]; done)
        | (simp [Go.binOp, Op.intCmp, A.val]; done))
theorem strx_sound {op : BinOp} {p q : ByteArray} {K : A → Prop} (h : strx op p q K) (P : Program) (t : TypeId) :
    ∃ x, K x ∧ x.ok 0 ∧ ∀ (w : World) (β : Num), (Go.binOp op t (.string p) (.string q)).run P w = .ok (x.val β) w := by
  unfold strx at h
  split at h
  case h_1 =>
    obtain ⟨hb, h⟩ := needx_elim h
    have hb' : p.size + q.size ≤ 9223372036854775807 := of_decide_eq_true hb
    refine ⟨_, h, trivial, fun w β => ?_⟩
    have hb2 : ¬ ((p.size + q.size : Nat) : Int) > IntKind.i64.max := by simp only [IntKind.max, IntKind.signed, IntKind.bits, if_true]; omega
    simp only [Go.binOp, Op.stringOp, if_neg hb2, A.val]
    rfl
  all_goals first
    | exact h.elim
    | (refine ⟨_, h, trivial, fun w β => ?_⟩
       simp [Go.binOp, Op.stringOp, A.val, Go.ByteArray.toList_eq]
       done)
theorem fltx_sound {k : FloatKind} {p q : Nat} {r : Option Nat} {K : A → Prop} (h : fltx k p q r K) (P : Program) (w : World) :
    ∃ x d, K x ∧ x.ok 0 ∧ ∀ β : Num, ((match r with | some r => pure (.float k r) | none => do pure (.float k (← choose (.nanBits k p q))) : Sem Value)).run P w = .ok (x.val β) { w with drawn := d } := by
  replace h := h.run
  split at h
  · exact ⟨_, w.drawn, h, trivial, fun β => rfl⟩
  · refine ⟨_, w.drawn + 1, h (w.tape w.drawn (.nanBits k p q)), trivial, fun β => ?_⟩
    simp only [Sem.run_bind, run_choose, Question.forced, Bool.false_eq_true, if_false, Result.andThen_ok, Sem.run_pure, A.val]
theorem floatx_sound {op : BinOp} {k : FloatKind} {p q : Nat} {K : A → Prop} (h : floatx op k p q K) (P : Program) (t : TypeId) (w : World) :
    ∃ x d, K x ∧ x.ok 0 ∧ ∀ β : Num, (Go.binOp op t (.float k p) (.float k q)).run P w = .ok (x.val β) { w with drawn := d } := by
  unfold floatx at h
  split at h
  case h_1 | h_2 | h_3 | h_4 =>
    obtain ⟨x, d, hk, ho, hr⟩ := fltx_sound h P w
    refine ⟨x, d, hk, ho, fun β => ?_⟩
    have := hr β
    simp only [Go.binOp, Op.floatArith, ne_eq, not_true_eq_false, if_false]
    exact this
  all_goals first
    | exact h.elim
    | (refine ⟨_, w.drawn, h, trivial, fun β => ?_⟩
       simp [Go.binOp, Op.floatCmp, A.val, fEqK, fLtK, fGtK, bne]
       done)
theorem eqAtom_in {P : Program} {t : TypeId} {x y : A} {b : Bool} (h : eqAtom P t x y = some b) (β : Num) (w : World) (d : Nat) (gx : x.gh β) (gy : y.gh β) :
    (Op.equalIn (d + 1) t (x.val β) (y.val β)).run P w = .ok b w := by
  unfold eqAtom at h
  split at h
  case h_3 | h_5 =>
    rename_i hu
    simp only [Option.some.injEq] at h
    subst h
    obtain ⟨b, eb, _⟩ := adr_get (by first | exact gx | exact gy) 0
    simp [Op.equalIn, underlying, hu, A.val, adr_some eb]
  case h_8 | h_10 =>
    rename_i i o l k hu
    split at h
    · rename_i hk
      simp only [Option.some.injEq] at h
      subst h
      have hne : β i ≠ none := fun e => by
        have h1 : l = 0 ∧ k = 0 := by first | exact gx e | exact gy e
        rw [h1.2] at hk
        cases hk
      obtain ⟨b, _, ea⟩ := adr_get hne o
      simp [Op.equalIn, underlying, hu, A.val, ea]
    · cases h
  all_goals
    simp only [Option.some.injEq, reduceCtorEq] at h <;> subst h <;> rename_i hu <;>
      simp [Op.equalIn, underlying, hu, A.val]
theorem eqAtom_sound {P : Program} {t : TypeId} {x y : A} {b : Bool} (h : eqAtom P t x y = some b) (β : Num) (w : World) (gx : x.gh β) (gy : y.gh β) :
    (Op.equal t (x.val β) (y.val β)).run P w = .ok b w := eqAtom_in h β w 9999 gx gy
end opers
end Go.Eng
