/- The engine, part 5: conversions, building, making, slicing. -/
import Derived.Test.YtkggpkgnkppceaaEng4
set_option linter.unusedVariables false
namespace Go.Eng
section opers
variable {c : Ctx} {o : Oper} {β : Num} {F : Frm} {H : Hp} {a : Act} {w : World} {K : V → Hp → Prop}

/-- The world after a new block and some draws. -/
theorem OpOK.newD {ty : TypeId} {mk : Bool} (h : ∀ β a w, WSat c β H w → FSat c β F H a → ∃ cs v d, K v (H ++ [.cells cs ty mk]) ∧ (∀ x ∈ cs, x.fit β H.length) ∧ v.fit (fun i => if i = H.length then some w.heap.size else β i) (H.length + 1) ∧
    (execOp a.eval o).run c.P w = .ok (.value (v.val fun i => if i = H.length then some w.heap.size else β i)) { (w.alloc ((Ob.cells cs ty mk).obj β)) with drawn := d }) : OpOK c o F H K := by
  intro β a w hw hf next Q hn
  obtain ⟨cs, v, d, hk, hok, hv, hr⟩ := h β a w hw hf
  simp only [Oper.wp, hr, Oper.upon]
  have m := hw.alloc (.cells cs ty mk) (Ob.fit_cells hok)
  exact hn v _ _ _ hk (by simpa using hv) (m.tick d)

theorem adr_new {β : Num} {n b o : Nat} : adr (fun i => if i = n then some b else β i) n o = some ⟨b, o, none⟩ := adr_some (if_pos rfl) o
theorem fit_news {β : Num} {n b o l k : Nat} : (V.a (.slc n o l k)).fit (fun i => if i = n then some b else β i) (n + 1) := ⟨Nat.lt_succ_self _, by simp [V.gh, A.gh]⟩
theorem u8s_val (s : List UInt8) : (u8s s).map (A.val β) = s.map fun b => Value.int .u8 b.toNat := by simp [u8s, A.val]
theorem u8s_fit (β : Num) (n : Nat) (s : List UInt8) : ∀ x ∈ u8s s, x.fit β n := by
  intro x hx
  unfold u8s at hx
  obtain ⟨b, _, rfl⟩ := List.mem_map.1 hx
  exact ⟨trivial, trivial⟩
theorem freeze_new (w : World) (cs : Array Value) (e : TypeId) (n : Nat) :
    (w.alloc (.cells cs e)).freeze ⟨w.heap.size, n, none⟩ 1 = w.alloc (.cells cs e (n, n + 1)) := by
  have h : (w.heap.push (Obj.cells cs e)).modify w.heap.size (fun
      | .cells c elem (lo, hi) => .cells c elem (if lo == hi then (n, n + 1) else (min lo n, max hi (n + 1)))
      | o => o) = w.heap.push (Obj.cells cs e (n, n + 1)) := by
    apply Array.ext_getElem?
    intro i
    rw [Array.getElem?_modify]
    by_cases h : w.heap.size = i
    · subst h; simp
    · rw [if_neg h, Array.getElem?_push, Array.getElem?_push]
      simp [Ne.symm h]
  unfold World.freeze
  rw [if_neg (by simp)]
  show World.mk _ _ _ _ _ = World.mk _ _ _ _ _
  congr 1
theorem run_strBytes {P : Program} (w : World) (e : TypeId) (s : ByteArray) : ∃ cap, s.size ≤ cap ∧
    (Conv.stringToBytes e s).run P w = .ok (.slice (some ⟨w.heap.size, 0, none⟩) s.size cap)
      { (w.alloc ((Ob.cells (u8s s.data.toList ++ List.replicate (cap - s.size) (A.int .u8 0)) e true).obj β)) with drawn := w.drawn + 1 } := by
  refine ⟨s.size + w.tape w.drawn (.appendCap s.size 0 e) % (2 ^ 63 - s.size), Nat.le_add_right _ _, ?_⟩
  generalize hc : s.size + w.tape w.drawn (.appendCap s.size 0 e) % (2 ^ 63 - s.size) = cap
  have hcells : (s.data.map fun b => Value.int .u8 b.toNat) ++ Array.replicate (cap - s.size) (Value.int .u8 0) = ((u8s s.data.toList ++ List.replicate (cap - s.size) (A.int .u8 0)).map (A.val β)).toArray := by
    simp [u8s_val, A.val]
  unfold Conv.stringToBytes
  simp only [Sem.run_bind, run_choose, Question.forced, Bool.false_eq_true, if_false, Result.andThen_ok, Question.cut, hc, newRow, run_newObj, Sem.run_pure, markStringish, run_shape]
  rw [hcells]
  have hs : ({ heap := w.heap.push (Obj.cells ((u8s s.data.toList ++ List.replicate (cap - s.size) (A.int .u8 0)).map (A.val β)).toArray e), tape := w.tape, drawn := w.drawn + 1, os := w.os, output := w.output } : World)
      = w.drew.alloc (Obj.cells ((u8s s.data.toList ++ List.replicate (cap - s.size) (A.int .u8 0)).map (A.val β)).toArray e) := rfl
  rw [hs]
  have hsh : (w.drew.alloc (Obj.cells ((u8s s.data.toList ++ List.replicate (cap - s.size) (A.int .u8 0)).map (A.val β)).toArray e)).shape? w.heap.size = some (e, (u8s s.data.toList ++ List.replicate (cap - s.size) (A.int .u8 0)).length) := by
    show (match (w.heap.push _)[w.heap.size]? with | some (.cells c elem _) => some (elem, c.size) | _ => none) = _
    simp
  rw [hsh]
  simp only [run_freeze, Result.andThen_ok]
  have := freeze_new w.drew ((u8s s.data.toList ++ List.replicate (cap - s.size) (A.int .u8 0)).map (A.val β)).toArray e (u8s s.data.toList ++ List.replicate (cap - s.size) (A.int .u8 0)).length
  simp only [World.size_drew] at this
  rw [this]
  rfl
theorem runesFrom_eq (s : ByteArray) : ∀ (b i : Nat) (acc : Array Value), Conv.runesFrom s b i acc = acc ++ ((runesGo s b i).map fun (n : Nat) => Value.int .i32 (n : Int)).toArray
  | 0, i, acc => by simp [Conv.runesFrom, runesGo]
  | b + 1, i, acc => by
    unfold Conv.runesFrom runesGo
    by_cases h : i < s.size
    · rw [if_pos h, if_pos h]
      show Conv.runesFrom s b (i + (Utf8.decode s i).2) (acc.push (.int .i32 (Int.ofNat (Utf8.decode s i).1))) = _
      rw [runesFrom_eq s b]
      simp
    · rw [if_neg h, if_neg h]
      simp
theorem run_strRunes {P : Program} (w : World) (e : TypeId) (s : ByteArray) : ∃ cap, (runesL s).length ≤ cap ∧
    (Conv.stringToRunes e s).run P w = .ok (.slice (some ⟨w.heap.size, 0, none⟩) (runesL s).length cap)
      { (w.alloc ((Ob.cells (i32s (runesL s) ++ List.replicate (cap - (runesL s).length) (A.int .i32 0)) e false).obj β)) with drawn := w.drawn + 1 } := by
  refine ⟨(runesL s).length + w.tape w.drawn (.appendCap (runesL s).length 0 e) % (2 ^ 63 - (runesL s).length), Nat.le_add_right _ _, ?_⟩
  generalize hc : (runesL s).length + w.tape w.drawn (.appendCap (runesL s).length 0 e) % (2 ^ 63 - (runesL s).length) = cap
  have he : Conv.runesFrom s s.size 0 #[] = ((runesL s).map fun (n : Nat) => Value.int .i32 (n : Int)).toArray := by
    rw [runesFrom_eq]
    unfold runesL
    simp
  have hsz : (Conv.runesFrom s s.size 0 #[]).size = (runesL s).length := by rw [he]; simp
  have hcells : ((runesL s).map fun (n : Nat) => Value.int .i32 (n : Int)).toArray ++ Array.replicate (cap - (runesL s).length) (Value.int .i32 0) = ((i32s (runesL s) ++ List.replicate (cap - (runesL s).length) (A.int .i32 0)).map (A.val β)).toArray := by
    unfold i32s
    simp [A.val]
  unfold Conv.stringToRunes
  simp only [hsz, Sem.run_bind, run_choose, Question.forced, Bool.false_eq_true, if_false, Result.andThen_ok, Question.cut, hc, newRow, run_newObj, Sem.run_pure]
  rw [he, hcells]
  rfl
theorem lenA_val {x : A} {n l k : Nat} {p : Addr} (hn : lenA x = some n) (hv : x.val β = .slice (some p) l k) : n = l := by
  cases x <;> simp only [lenA, Option.some.injEq, reduceCtorEq] at hn <;> simp only [A.val, Value.slice.injEq, reduceCtorEq, Option.some.injEq] at hv <;> first
    | (exact hn.symm.trans hv.2.1)
    | (exact absurd hv.1 (by simp))
theorem op_conv {s d : TypeId} {X : Operand} {x : A} (ho : o.op = .convert s d X) (hx : rho F X = some (.a x)) (h : convA c.P c.ro s d x H fun r H' => K (.a r) H') : OpOK c o F H K := by
  unfold convA at h
  split at h
  · rename_i k _ n h1 h2
    refine Still.ok ⟨_, h, fun β a w hw hf => ⟨⟨trivial, trivial⟩, ?_⟩⟩
    have hx' := (rho_sound hf hx).1
    simp [execOp, ho, hx', Go.convert, underlying, h1, h2, V.val_a, A.val, Conv.intToInt]
  · rename_i k _ n h1 h2
    refine Still.ok ⟨_, h, fun β a w hw hf => ⟨⟨trivial, trivial⟩, ?_⟩⟩
    have hx' := (rho_sound hf hx).1
    simp [execOp, ho, hx', Go.convert, underlying, h1, h2, V.val_a, A.val, Conv.intToFloat]
  · rename_i h1 h2
    refine Still.ok ⟨_, h, fun β a w hw hf => ⟨⟨trivial, trivial⟩, ?_⟩⟩
    have hx' := (rho_sound hf hx).1
    simp [execOp, ho, hx', Go.convert, underlying, h1, h2, V.val_a, A.val]
  · rename_i h1 h2
    refine Still.ok ⟨_, h, fun β a w hw hf => ⟨⟨trivial, trivial⟩, ?_⟩⟩
    have hx' := (rho_sound hf hx).1
    simp [execOp, ho, hx', Go.convert, underlying, h1, h2, V.val_a, A.val, Conv.intToString]
  · rename_i e s h1 h2
    split at h
    · rename_i h3
      refine .newD (ty := e) (mk := true) fun β a w hw hf => ?_
      obtain ⟨cap, hcap, hr⟩ := run_strBytes (β := β) (P := c.P) w e s
      refine ⟨_, _, w.drawn + 1, h cap hcap, fun x hx => ?_, fit_news, ?_⟩
      · rcases List.mem_append.1 hx with hx | hx
        · exact u8s_fit _ _ _ x hx
        · obtain ⟨_, rfl⟩ := List.mem_replicate.1 hx
          exact ⟨trivial, trivial⟩
      · have hx' := (rho_sound hf hx).1
        simp only [execOp, ho, hx', Go.convert, underlying, h1, h2, h3, V.val_a, A.val, Sem.run_bind, run_program, Result.andThen_ok, Sem.run_pure, hr, adr_new]
    · rename_i h3
      refine .newD (ty := e) (mk := false) fun β a w hw hf => ?_
      obtain ⟨cap, hcap, hr⟩ := run_strRunes (β := β) (P := c.P) w e s
      refine ⟨_, _, w.drawn + 1, h cap hcap, fun x hx => ?_, fit_news, ?_⟩
      · rcases List.mem_append.1 hx with hx | hx
        · unfold i32s at hx
          obtain ⟨n, _, rfl⟩ := List.mem_map.1 hx
          exact ⟨trivial, trivial⟩
        · obtain ⟨_, rfl⟩ := List.mem_replicate.1 hx
          exact ⟨trivial, trivial⟩
      · have hx' := (rho_sound hf hx).1
        simp only [execOp, ho, hx', Go.convert, underlying, h1, h2, h3, V.val_a, A.val, Sem.run_bind, run_program, Result.andThen_ok, Sem.run_pure, hr, adr_new]
    · exact h.elim
  · rename_i e h1 h2 _ _
    split at h
    · rename_i h3
      obtain ⟨n, hn, h⟩ := optx_elim h
      obtain ⟨xs, h, hl, hrows⟩ := rowx_sound h
      obtain ⟨bs, hb, h⟩ := optx_elim h
      refine Still.ok ⟨_, h, fun β a w hw hf => ⟨⟨trivial, trivial⟩, ?_⟩⟩
      have hx' := (rho_sound hf hx).1
      obtain ⟨hok, hrow⟩ := hrows β w hw (rho_sound hf hx).2.2
      rcases hrow with ⟨hv, h0⟩ | ⟨p, l, k, hv, hc⟩
      · have : xs = [] := List.eq_nil_of_length_eq_zero (by omega)
        subst this
        simp only [bytesOf, Option.some.injEq] at hb
        subst hb
        simp [execOp, ho, hx', Go.convert, underlying, h1, h2, h3, V.val_a, hv, Conv.bytesToString]
        rfl
      · have hln : n = l := lenA_val hn hv
        have hr := run_bytesStr (P := c.P) (k := k) hb (hl.trans hln) hc
        simp [execOp, ho, hx', Go.convert, underlying, h1, h2, h3, V.val_a, A.val, hv, hr]
    · exact h.elim
  · rename_i k s b h1 h2
    obtain ⟨hb, h⟩ := needx_elim h
    have hb' : s = k := of_decide_eq_true hb
    subst hb'
    refine Still.ok ⟨_, h, fun β a w hw hf => ⟨⟨trivial, trivial⟩, ?_⟩⟩
    have hx' := (rho_sound hf hx).1
    simp [execOp, ho, hx', Go.convert, underlying, h1, h2, V.val_a, A.val, Conv.floatToFloat]
  · rename_i k0 s0 b0 h1 h2
    obtain ⟨n, hn, h⟩ := optx_elim h
    refine Still.ok ⟨_, h, fun β a w hw hf => ⟨⟨trivial, trivial⟩, ?_⟩⟩
    have hx' := (rho_sound hf hx).1
    have hr := run_convert_float_int (P := c.P) w s d s0 k0 b0 n (by rw [h1]; rfl) h2 hn
    simp only [execOp, ho, hx', V.val_a, A.val, Sem.run_bind, hr, Result.andThen_ok, Sem.run_pure]
  · exact h.elim

/-- Conversions that make no memory. -/
theorem op_conv_still {s d : TypeId} {X : Operand} {x : A} (ho : o.op = .convert s d X) (hs : convStill c.P d = true) (hx : rho F X = some (.a x)) (h : convA c.P c.ro s d x H fun r H' => K (.a r) H') : Still c o F H K := by
  unfold convA at h
  split at h
  · rename_i k _ n h1 h2
    refine ⟨_, h, fun β a w hw hf => ⟨⟨trivial, trivial⟩, ?_⟩⟩
    have hx' := (rho_sound hf hx).1
    simp [execOp, ho, hx', Go.convert, underlying, h1, h2, V.val_a, A.val, Conv.intToInt]
  · rename_i k _ n h1 h2
    refine ⟨_, h, fun β a w hw hf => ⟨⟨trivial, trivial⟩, ?_⟩⟩
    have hx' := (rho_sound hf hx).1
    simp [execOp, ho, hx', Go.convert, underlying, h1, h2, V.val_a, A.val, Conv.intToFloat]
  · rename_i h1 h2
    refine ⟨_, h, fun β a w hw hf => ⟨⟨trivial, trivial⟩, ?_⟩⟩
    have hx' := (rho_sound hf hx).1
    simp [execOp, ho, hx', Go.convert, underlying, h1, h2, V.val_a, A.val]
  · rename_i h1 h2
    refine ⟨_, h, fun β a w hw hf => ⟨⟨trivial, trivial⟩, ?_⟩⟩
    have hx' := (rho_sound hf hx).1
    simp [execOp, ho, hx', Go.convert, underlying, h1, h2, V.val_a, A.val, Conv.intToString]
  · rename_i e s h1 h2
    simp [convStill, h2] at hs
  · rename_i e h1 h2 _ _
    split at h
    · rename_i h3
      obtain ⟨n, hn, h⟩ := optx_elim h
      obtain ⟨xs, h, hl, hrows⟩ := rowx_sound h
      obtain ⟨bs, hb, h⟩ := optx_elim h
      refine ⟨_, h, fun β a w hw hf => ⟨⟨trivial, trivial⟩, ?_⟩⟩
      have hx' := (rho_sound hf hx).1
      obtain ⟨hok, hrow⟩ := hrows β w hw (rho_sound hf hx).2.2
      rcases hrow with ⟨hv, h0⟩ | ⟨p, l, k, hv, hc⟩
      · have : xs = [] := List.eq_nil_of_length_eq_zero (by omega)
        subst this
        simp only [bytesOf, Option.some.injEq] at hb
        subst hb
        simp [execOp, ho, hx', Go.convert, underlying, h1, h2, h3, V.val_a, hv, Conv.bytesToString]
        rfl
      · have hln : n = l := lenA_val hn hv
        have hr := run_bytesStr (P := c.P) (k := k) hb (hl.trans hln) hc
        simp [execOp, ho, hx', Go.convert, underlying, h1, h2, h3, V.val_a, A.val, hv, hr]
    · exact h.elim
  · rename_i k s b h1 h2
    obtain ⟨hb, h⟩ := needx_elim h
    have hb' : s = k := of_decide_eq_true hb
    subst hb'
    refine ⟨_, h, fun β a w hw hf => ⟨⟨trivial, trivial⟩, ?_⟩⟩
    have hx' := (rho_sound hf hx).1
    simp [execOp, ho, hx', Go.convert, underlying, h1, h2, V.val_a, A.val, Conv.floatToFloat]
  · rename_i k0 s0 b0 h1 h2
    obtain ⟨n, hn, h⟩ := optx_elim h
    refine ⟨_, h, fun β a w hw hf => ⟨⟨trivial, trivial⟩, ?_⟩⟩
    have hx' := (rho_sound hf hx).1
    have hr := run_convert_float_int (P := c.P) w s d s0 k0 b0 n (by rw [h1]; rfl) h2 hn
    simp only [execOp, ho, hx', V.val_a, A.val, Sem.run_bind, hr, Result.andThen_ok, Sem.run_pure]
  · exact h.elim

/-! Building. -/
theorem partsx_sound (hF : FSat c β F H a) : ∀ {l : List (Nat × Operand)} {vs : List (Nat × V)}, partsx F l = some vs → (l.map fun p => (p.1, a.eval p.2)) = vs.map (fun p => (p.1, p.2.val β)) ∧ ∀ p ∈ vs, p.2.fit β H.length
  | [], vs, h => by simp only [partsx, Option.some.injEq] at h; subst h; simp
  | (i, x) :: l, vs, h => by
    simp only [partsx] at h
    split at h
    · rename_i v us h1 h2
      simp only [Option.some.injEq] at h
      subst h
      obtain ⟨e1, o1⟩ := rho_sound hF h1
      obtain ⟨e2, o2⟩ := partsx_sound hF h2
      refine ⟨by simp [e1, e2], fun p hp => ?_⟩
      rcases List.mem_cons.1 hp with rfl | hp
      · exact o1
      · exact o2 p hp
    · cases h
theorem foldl_set (xs : List A) : ∀ (cs : List A) (off j : Nat), ((xs.map (A.val β)).zipIdx j).foldl (fun (r : Array Value) (p : Value × Nat) => r.setIfInBounds (off + p.2) p.1) (cs.map (A.val β)).toArray = ((storeL cs (off + j) xs).map (A.val β)).toArray := by
  induction xs with
  | nil => intro cs off j; rfl
  | cons x xs ih =>
    intro cs off j
    simp only [List.map_cons, List.zipIdx_cons, List.foldl_cons, storeL]
    have := ih (cs.set (off + j) x) off (j + 1)
    rw [← Nat.add_assoc] at this
    rw [← this]
    congr 1
    simp [List.map_set]
theorem fillx_sound {P : Program} {place : Nat → Option (Nat × Nat)} : ∀ (l : List (Nat × V)) (cs : List A) {K : List A → Prop}, fillx P place cs l K →
    ∃ r, K r ∧ (∀ (β : Num) n, (∀ p ∈ l, p.2.fit β n) → (∀ x ∈ cs, x.fit β n) → ∀ x ∈ r, x.fit β n) ∧ r.length = cs.length ∧ ∀ β : Num, Instr.fill place (cs.map (A.val β)).toArray (l.map fun p => (p.1, p.2.val β)) = some (r.map (A.val β)).toArray
  | [], cs, K, h => ⟨cs, h, fun _ _ _ hc => hc, rfl, fun β => rfl⟩
  | (i, v) :: l, cs, K, h => by
    unfold fillx at h
    split at h
    · rename_i off size xs hp hx
      obtain ⟨hb, h⟩ := needx_elim h
      simp only [Bool.and_eq_true, beq_iff_eq, decide_eq_true_eq] at hb
      obtain ⟨r, hk, hr, hlen, hf⟩ := fillx_sound l (storeL cs off xs) h
      refine ⟨r, hk, fun β n hl hc => hr β n (fun p hp => hl p (by simp [hp])) (storeL_ok _ _ _ hc (V.cells_fit hx (hl (i, v) (by simp)))), by rw [hlen, storeL_length], fun β => ?_⟩
      have hcells : (v.val β).cells = (xs.map (A.val β)).toArray := V.val_cells hx
      have hfs := foldl_set (β := β) xs cs off 0
      simp only [Nat.add_zero] at hfs
      rw [List.map_cons]
      unfold Instr.fill
      simp only [hp, hcells]
      rw [if_neg (by simp; omega)]
      rw [← hf β, ← hfs]
      congr 1
      rw [← Array.foldl_toList, Array.toList_zipIdx]
    · exact h.elim
theorem places_sound {P : Program} (w : World) : ∀ {fs : List Field} {pl : List (Nat × Nat)}, places P fs = some pl →
    (fs.mapM fun f => do pure (f.offset, ← sizeOf f.type) : Sem (List (Nat × Nat))).run P w = .ok pl w
  | [], pl, h => by simp only [places, Option.some.injEq] at h; subst h; rfl
  | f :: fs, pl, h => by
    simp only [places] at h
    split at h
    · rename_i i r hi hr
      simp only [Option.some.injEq] at h
      subst h
      have := places_sound w hr
      simp only [List.mapM_cons, Sem.run_bind, sizeOf, typeInfo, run_program, Result.andThen_ok, hi, Sem.run_pure] at this ⊢
      rw [this]
      rfl
    · cases h
theorem op_build_struct {t : TypeId} {ps : Array (Nat × Operand)} {fs : Array Field} {zs : List A} {l : List (Nat × V)} {pl : List (Nat × Nat)} (ho : o.op = .build t ps) (hu : c.P.underlying t = some (.struct fs)) (hz : zeros c.P t = some zs)
    (hp : partsx F ps.toList = some l) (hpl : places c.P fs.toList = some pl) (h : fillx c.P (fun i => pl[i]?) zs l fun cs => K (.g cs) H) : Pure c o F H K := by
  obtain ⟨q, z, hi, hv, hc, hok⟩ := zeros_sound hz
  obtain ⟨r, hk, hr, _, hfill⟩ := fillx_sound l zs h
  refine ⟨_, hk, fun β a w hf => ?_⟩
  obtain ⟨e, hl⟩ := partsx_sound hf hp
  refine ⟨V.fit_g (hr β _ hl (fun x hx => A.fit_of0 (hok x hx))), ?_⟩
  have hpl' := places_sound w hpl
  have hm : (fs.mapM fun f => do pure (f.offset, ← sizeOf f.type) : Sem (Array (Nat × Nat))).run c.P w = .ok pl.toArray w := by
    rw [Array.mapM_eq_mapM_toList, Sem.run_map, hpl']
    rfl
  have hparts : (ps.map fun (p : Nat × Operand) => (p.1, a.eval p.2)).toList = l.map fun p => (p.1, p.2.val β) := by simpa using e
  have hfl := hfill β
  simp only [execOp, ho, Instr.build, Sem.run_bind, zeroValue, typeInfo, run_program, Result.andThen_ok, hi, hv, Sem.run_pure, underlying, hu, hm]
  have hfl2 : Instr.fill (fun x => pl.toArray[x]?) z.cells (ps.map fun (p : Nat × Operand) => (p.1, a.eval p.2)).toList = some (r.map (A.val β)).toArray := by
    rw [hparts, hc β]
    simpa using hfl
  rw [hfl2]
  rfl
theorem op_build_array {t e : TypeId} {n : Nat} {ps : Array (Nat × Operand)} {zs : List A} {l : List (Nat × V)} {q : TypeInfo} (ho : o.op = .build t ps) (hu : c.P.underlying t = some (.array n e)) (hz : zeros c.P t = some zs)
    (hp : partsx F ps.toList = some l) (hq : c.P.info? e = some q) (h : fillx c.P (fun i => some (i * q.size, q.size)) zs l fun cs => K (.g cs) H) : Pure c o F H K := by
  obtain ⟨q', z, hi, hv, hc, hok⟩ := zeros_sound hz
  obtain ⟨r, hk, hr, _, hfill⟩ := fillx_sound l zs h
  refine ⟨_, hk, fun β a w hf => ?_⟩
  obtain ⟨e', hl⟩ := partsx_sound hf hp
  refine ⟨V.fit_g (hr β _ hl (fun x hx => A.fit_of0 (hok x hx))), ?_⟩
  have hparts : (ps.map fun (p : Nat × Operand) => (p.1, a.eval p.2)).toList = l.map fun p => (p.1, p.2.val β) := by simpa using e'
  have hfl2 : Instr.fill (fun i => some (i * q.size, q.size)) z.cells (ps.map fun (p : Nat × Operand) => (p.1, a.eval p.2)).toList = some (r.map (A.val β)).toArray := by
    rw [hparts, hc β]
    exact hfill β
  simp only [execOp, ho, Instr.build, Sem.run_bind, zeroValue, typeInfo, run_program, Result.andThen_ok, hi, hv, Sem.run_pure, underlying, hu, sizeOf, hq, hfl2]
  rfl

theorem repl_ok {β : Num} {m : Nat} {zs : List A} (hz : ∀ x ∈ zs, x.fit β m) (n : Nat) : ∀ x ∈ repl zs n, x.fit β m := by
  intro x hx
  unfold repl at hx
  split at hx
  · obtain ⟨_, rfl⟩ := List.mem_replicate.1 hx
    exact hz _ (by simp)
  · obtain ⟨i, _, rfl⟩ := List.mem_map.1 hx
    rw [List.getD_eq_getElem?_getD]
    cases h : zs[i % zs.length]? with
    | none => exact ⟨trivial, trivial⟩
    | some y => exact hz y (List.mem_of_getElem? h)
theorem repl_length (zs : List A) (n : Nat) : (repl zs n).length = n := by
  unfold repl
  split <;> simp
theorem repl_val {zs : List A} (hz : zs.length ≠ 0) (n : Nat) {zv : Array Value} (hv : zv = (zs.map (A.val β)).toArray) :
    (Array.range n).map (fun i => zv[i % zv.size]!) = ((repl zs n).map (A.val β)).toArray := by
  subst hv
  apply Array.ext_getElem?
  intro i
  unfold repl
  split
  · rename_i z
    simp only [Array.getElem?_map, List.map_replicate, List.getElem?_toArray, List.getElem?_replicate]
    by_cases hi : i < n
    · simp [hi, Nat.mod_one]
    · simp [hi]
  · simp only [Array.getElem?_map, List.getElem?_toArray, List.getElem?_map]
    by_cases hi : i < n
    · have hlt : i % zs.length < zs.length := Nat.mod_lt _ (by omega)
      simp [hi, hlt]
    · simp [hi]
theorem op_buildSlice {t e : TypeId} {n : Nat} {ps : Array (Nat × Operand)} {zs : List A} {l : List (Nat × V)} {q : TypeInfo} (ho : o.op = .buildSlice t n ps) (hu : c.P.underlying t = some (.slice e)) (hp : partsx F ps.toList = some l)
    (hq : c.P.info? e = some q) (hz : zeros c.P e = some zs)
    (h : needx (decide (n * q.size ≤ 16777216) && zs.length == q.size && q.size != 0)
        (fillx c.P (fun i => some (i * q.size, q.size)) (repl zs (n * q.size)) l fun cs => K (.a (.slc H.length 0 n n)) (H ++ [.cells cs e false]))) : OpOK c o F H K := by
  obtain ⟨hb, h⟩ := needx_elim h
  simp only [Bool.and_eq_true, decide_eq_true_eq, beq_iff_eq, bne_iff_ne, ne_eq] at hb
  obtain ⟨q', z, hi, hv, hc, hok⟩ := zeros_sound hz
  intro β a w hw hf
  obtain ⟨r, hk, hr, _, hfill⟩ := fillx_sound l _ h
  refine OpOK.new hk (fun β a w hw hf => ⟨hr β _ (partsx_sound hf hp).2 (repl_ok (fun x hx => A.fit_of0 (hok x hx)) _), fit_news, ?_⟩) β a w hw hf
  obtain ⟨e', _⟩ := partsx_sound hf hp
  have hparts : (ps.map fun (p : Nat × Operand) => (p.1, a.eval p.2)).toList = l.map fun p => (p.1, p.2.val β) := by simpa using e'
  have hne : zs.length ≠ 0 := by rw [hb.1.2]; exact hb.2
  have hfl2 : Instr.fill (fun i => some (i * q.size, q.size)) ((repl zs (n * q.size)).map (A.val β)).toArray (ps.map fun (p : Nat × Operand) => (p.1, a.eval p.2)).toList = some (r.map (A.val β)).toArray := by
    rw [hparts]
    exact hfill β
  have hsz : ¬ n * q.size > 2 ^ 24 := by omega
  simp only [execOp, ho, Instr.buildSlice, Sem.run_bind, underlying, run_program, Result.andThen_ok, hu, Sem.run_pure, sizeOf, typeInfo, hq, if_neg hsz, Sem.run_ite]
  by_cases h0 : n * q.size = 0
  · have hcells : (Array.range (n * q.size)).map (fun i => (#[] : Array Value)[i % (#[] : Array Value).size]!) = ((repl zs (n * q.size)).map (A.val β)).toArray := by
      rw [h0]
      have : repl zs 0 = [] := List.eq_nil_of_length_eq_zero (repl_length _ _)
      simp [this]
    rw [if_pos h0, hcells, hfl2]
    simp [newRow, V.val_a, A.val_slc, adr_new]
  · have hcells := repl_val (β := β) hne (n * q.size) (hc β)
    rw [if_neg h0]
    simp only [zeroValue, typeInfo, Sem.run_bind, run_program, Result.andThen_ok, hi, hv, Sem.run_pure]
    rw [hcells, hfl2]
    simp [newRow, V.val_a, A.val_slc, adr_new]
end opers
end Go.Eng
