/- The engine, part 7: builtins, calls, all operations. -/
import Derived.Test.YtkggpkgnkppceaaEng6
set_option linter.unusedVariables false
namespace Go.Eng
section opers
variable {c : Ctx} {o : Oper} {β : Num} {F : Frm} {H : Hp} {a : Act} {w : World} {K : V → Hp → Prop}

/-- A builtin's call. -/
theorem run_builtin_call {b : Builtin} {args ts : Array _} (ho : o.op = .call ⟨.builtin b, args, ts⟩) {vs : List V} (hF : FSat c β F H a) (hv : rhos F args.toList = some vs) :
    ∃ consts, (execOp a.eval o).run c.P w = (Go.builtin b ts o.type consts (vs.map (V.val β)).toArray).run c.P w := by
  have e := (rhos_sound hF hv).1
  have e2 : args.map a.eval = (vs.map (V.val β)).toArray := by
    apply Array.toList_inj.1
    simpa using e
  refine ⟨args.map fun | .const _ => true | _ => false, ?_⟩
  simp only [execOp, ho, resolve, Sem.run_bind, Sem.run_pure, Result.andThen_ok, invoke, e2]
  rfl
theorem lenx_sound {ts : Array TypeId} {x : V} {K : V → Prop} (h : lenx c.P ts x K) (ty : TypeId) :
    ∃ r, K r ∧ r.ok 0 ∧ ∀ (w : World) (β : Num), (Builtin.len_ ts ty #[x.val β]).run c.P w = .ok (r.val β) w := by
  unfold lenx at h
  split at h
  · rename_i t ht
    split at h
    · rename_i s hu
      exact ⟨_, h, trivial, fun w β => by simp [Builtin.len_, ht, underlying, hu, V.val_a, A.val, goInt]⟩
    · rename_i n _ hu
      refine ⟨_, h, trivial, fun w β => ?_⟩
      simp only [Builtin.len_, ht]
      simp [underlying, hu, V.val_a, A.val, goInt]
    · rename_i x hu
      split at h
      · exact ⟨_, h, trivial, fun w β => by simp [Builtin.len_, ht, underlying, hu, V.val_a, A.val, goInt]⟩
      · exact ⟨_, h, trivial, fun w β => by simp [Builtin.len_, ht, underlying, hu, V.val_a, A.val, goInt]⟩
      · exact ⟨_, h, trivial, fun w β => by simp [Builtin.len_, ht, underlying, hu, V.val_a, A.val, goInt]⟩
      · exact h.elim
    · rename_i p hu
      split at h
      · rename_i n _ hu2
        refine ⟨_, h, trivial, fun w β => ?_⟩
        simp only [Builtin.len_, ht]
        simp [underlying, hu, hu2, V.val_a, A.val, goInt]
      · exact h.elim
    · exact h.elim
  · exact h.elim
theorem capx_sound {ts : Array TypeId} {x : V} {K : V → Prop} (h : capx c.P ts x K) (ty : TypeId) :
    ∃ r, K r ∧ r.ok 0 ∧ ∀ (w : World) (β : Num), (Builtin.cap_ ts ty #[x.val β]).run c.P w = .ok (r.val β) w := by
  unfold capx at h
  split at h
  · rename_i t ht
    split at h
    · rename_i x hu
      split at h
      · exact ⟨_, h, trivial, fun w β => by simp [Builtin.cap_, ht, underlying, hu, V.val_a, A.val, goInt]⟩
      · exact ⟨_, h, trivial, fun w β => by simp [Builtin.cap_, ht, underlying, hu, V.val_a, A.val, goInt]⟩
      · exact ⟨_, h, trivial, fun w β => by simp [Builtin.cap_, ht, underlying, hu, V.val_a, A.val, goInt]⟩
      · exact h.elim
    · exact h.elim
  · exact h.elim

/-- What append and copy read. -/
theorem srcx_sound (hw : WSat c β H w) {x : A} {n size : Nat} {K : List A → Prop} (hg : x.gh β) (hx : ∀ m, lenA x = some m → n ≤ m) (h : srcx c.ro H x n size K) :
    ∃ xs : List A, K xs ∧ xs.length = n * size ∧ (∀ y ∈ xs, y.fit β H.length) ∧ ∀ d, (Builtin.firstCells size n (x.val β)).run c.P { w with drawn := d } = .ok (xs.map (A.val β)).toArray { w with drawn := d } := by
  unfold srcx at h
  split at h
  · rename_i s
    obtain ⟨hb, h⟩ := needx_elim h
    have hb' : size = 1 := by simpa using hb
    have hn : n ≤ s.size := hx s.size rfl
    refine ⟨_, h, ?_, u8s_fit _ _ _, fun d => ?_⟩
    · have hs : s.data.toList.length = s.size := rfl
      simp only [u8s, List.length_map, List.length_take, hs, hb']
      omega
    · simp only [Builtin.firstCells, A.val, Sem.run_pure, u8s_val]
      congr 1
      apply Array.toList_inj.1
      have : (s.extract 0 n).data.toList = s.data.toList.take n := by
        simp [ByteArray.data_extract]
      simp
  · obtain ⟨xs, hk, hl, hrows⟩ := rowx_sound h
    obtain ⟨hok, hrow⟩ := hrows β w hw hg
    refine ⟨xs, hk, hl, hok, fun d => ?_⟩
    rcases hrow with ⟨hv, h0⟩ | ⟨p, l, k, hv, hc⟩
    · have : xs = [] := List.eq_nil_of_length_eq_zero (by omega)
      subst this
      rw [hv]
      simp [Builtin.firstCells]
    · have := run_loadRow (P := c.P) (w := { w with drawn := d }) hc
      rw [hl] at this
      simp only [hv, Builtin.firstCells, this]
theorem lenOf_sound {x : A} {n : Nat} (h : lenA x = some n) (P : Program) (w : World) : (Builtin.lenOf (x.val β)).run P w = .ok n w := by
  cases x <;> simp only [lenA, Option.some.injEq, reduceCtorEq] at h <;> subst h <;> simp [A.val, Builtin.lenOf]
theorem zeroCells_val {zs : List A} (hz : zs.length ≠ 0) {zv : Array Value} (hv : zv = (zs.map (A.val β)).toArray) (n : Nat) : Builtin.zeroCells zv n = ((repl zs (n * zs.length)).map (A.val β)).toArray := by
  unfold Builtin.zeroCells
  have := repl_val (β := β) hz (n * zs.length) hv
  rw [← this, hv]
  simp

/-- A row of cells is written into a block. -/
theorem keep_row (hw : WSat c β H w) {i off : Nat} {cs xs : List A} {ty : TypeId} {mk : Bool} (hb : H[i]? = some (.cells cs ty mk)) (e : β i = none) (hl : off + xs.length ≤ cs.length) :
    xs = [] ∧ Mv c β H w β (H.set i (.cells (storeL cs off xs) ty mk)) w := by
  have hbr : cs = [] := hw.bare i _ hb e
  subst hbr
  have hxs : xs = [] := by cases xs with | nil => rfl | cons x l => simp at hl
  subst hxs
  refine ⟨rfl, ?_⟩
  have : H.set i (.cells (storeL [] off []) ty mk) = H := by
    apply List.ext_getElem?
    intro j
    by_cases hj : i = j
    · subst hj; rw [List.getElem?_set_self (hw.lenOf hb), hb]; rfl
    · rw [List.getElem?_set_ne hj]
  rw [this]
  exact Mv.refl hw
theorem store_row (hw : WSat c β H w) {i bb off : Nat} (eb : β i = some bb) {cs xs : List A} {ty : TypeId} {mk : Bool} (hb : H[i]? = some (.cells cs ty mk)) (hl : off + xs.length ≤ cs.length) (hok : ∀ x ∈ xs, x.fit β H.length) :
    ∃ w', (storeCells ⟨bb, off, none⟩ (xs.map (A.val β))).run c.P w = .ok () w' ∧ Mv c β H w β (H.set i (.cells (storeL cs off xs) ty mk)) w' := by
  obtain ⟨w', hr, ho, hs, hbb, hkk⟩ := run_storeCells (P := c.P) (off := off) xs w cs 0 (by simpa [Ob.obj] using hw.blk i bb _ hb eb) (by omega)
  refine ⟨w', hr, hw.setBlk (hw.lenOf hb) (.cells (storeL cs off xs) ty mk) (Ob.fit_cells (storeL_ok _ _ _ (hw.ok_cells hb) hok)) (fun e => by rw [eb] at e; cases e) ho hs (fun b' eb' => ?_) (fun k hk' => hkk k fun e => hk' (by rw [eb, e]))⟩
  rw [eb] at eb'; injection eb' with eb'; subst eb'
  simpa [Ob.obj, storeL_length] using hbb

/-- The call's whole effect, said once. -/
def Does (c : Ctx) (β : Num) (H : Hp) (w : World) (s : Sem Value) (K : V → Hp → Prop) : Prop :=
  ∃ v H' β' w', K v H' ∧ v.fit β' H'.length ∧ Mv c β H w β' H' w' ∧ s.run c.P w = .ok (v.val β') w'
theorem append_fits {P : Program} {ts : Array TypeId} {ty t u e : TypeId} {d : TypeDesc} {q : TypeInfo} (ht : ts[0]? = some t) (htu : ts[1]? = some u) (hu : P.underlying t = some (.slice e)) (hd : P.underlying u = some d)
    (hdz : isIntD d = false) (hq : P.info? e = some q) {A0 : Option Addr} {n cap m : Nat} {y : Value} (hlo : (Builtin.lenOf y).run P w = .ok m w) (hle : n + m ≤ cap) {xs : Array Value} (hf : (Builtin.firstCells q.size m y).run P w = .ok xs w) :
    (Builtin.append_ ts ty #[.slice A0 n cap, y]).run P w = match A0 with
      | some p => ((storeCells (p.add (n * q.size)) xs.toList).run P w).andThen fun _ w' => .ok (.slice A0 (n + m) cap) w'
      | none => .ok (.slice A0 (n + m) cap) w := by
  unfold Builtin.append_
  simp only [List.getElem?_toArray, List.getElem?_cons_zero, List.getElem?_cons_succ, ht, htu]
  cases d
  case int => simp [isIntD] at hdz
  all_goals
      (simp only [Sem.run_bind, underlying, run_program, Result.andThen_ok, hu, hd, Sem.run_pure, sizeOf, typeInfo, hq, Bool.false_eq_true, if_false, hlo, Sem.run_ite, if_pos hle, Bool.not_false, if_true, hf]
       cases A0 with
       | none => rfl
       | some p => simp only [Sem.run_bind, Sem.run_pure])
theorem append_grows {P : Program} {ts : Array TypeId} {ty t u e : TypeId} {d : TypeDesc} {q : TypeInfo} (ht : ts[0]? = some t) (htu : ts[1]? = some u) (hu : P.underlying t = some (.slice e)) (hd : P.underlying u = some d)
    (hdz : isIntD d = false) (hq : P.info? e = some q) (hqb : q.bytes ≠ 0) {z : Value} (hz : q.zero = some z) {A0 : Option Addr} {n cap m : Nat} {y : Value} (hlo : (Builtin.lenOf y).run P w = .ok m w) (hle : ¬ n + m ≤ cap)
    (hb : (n + m) * q.bytes ≤ 140737488355328) {old new : Array Value}
    (ho : ∀ d, (Builtin.firstCells q.size n (.slice A0 n cap)).run P { w with drawn := d } = .ok old { w with drawn := d }) (hf : ∀ d, (Builtin.firstCells q.size m y).run P { w with drawn := d } = .ok new { w with drawn := d }) :
    ∃ cap', n + m ≤ cap' ∧ (Builtin.append_ ts ty #[.slice A0 n cap, y]).run P w =
      .ok (.slice (some ⟨w.heap.size, 0, none⟩) (n + m) cap') { (w.alloc (.cells (old ++ new ++ Builtin.zeroCells z.cells (cap' - (n + m))) e)) with drawn := w.drawn + 1 } := by
  refine ⟨(n + m) + w.tape w.drawn (.appendCap (n + m) cap e) % (2 ^ 63 - (n + m)), Nat.le_add_right _ _, ?_⟩
  generalize hc : (n + m) + w.tape w.drawn (.appendCap (n + m) cap e) % (2 ^ 63 - (n + m)) = cap'
  have hg := growslice_fits (need := n + m) (old := cap) (bytes := q.bytes) (by omega) hb
  have hg' : ¬ Builtin.nextslicecap (n + m) cap * q.bytes > 2 ^ 48 := by omega
  have h1 := ho (w.drawn + 1)
  have h2 := hf (w.drawn + 1)
  unfold Builtin.append_
  simp only [List.getElem?_toArray, List.getElem?_cons_zero, List.getElem?_cons_succ, ht, htu]
  cases d
  case int => simp [isIntD] at hdz
  all_goals
      (simp only [Sem.run_bind, underlying, run_program, Result.andThen_ok, hu, hd, Sem.run_pure, sizeOf, typeInfo, hq, Bool.false_eq_true, if_false, hlo, Sem.run_ite, if_neg hle, Bool.not_false, if_true]
       rw [if_neg (by simp [hqb])]
       simp only [Sem.run_bind, run_program, Result.andThen_ok, hq, Sem.run_pure, if_neg hg', run_choose, Question.forced, Bool.false_eq_true, if_false, Question.cut, hc, run_askRoom, h1, h2, zeroValue, typeInfo, hz, newRow, run_newObj]
       rfl)
theorem append_sound (hw : WSat c β H w) {ts : Array TypeId} {ty : TypeId} {x y : A} (hx : x.fit β H.length) (hy : y.gh β) (h : appendx c.P c.ro ts H x y K) : Does c β H w (Builtin.append_ ts ty #[x.val β, y.val β]) K := by
  unfold appendx at h
  split at h
  · rename_i t u ht htu
    split at h
    · rename_i e d hu hd
      obtain ⟨hnz, h⟩ := needx_elim h
      have hdz : isIntD d = false := by simpa using hnz
      split at h
      · rename_i q zs m hq hz hm
        obtain ⟨hb, h⟩ := needx_elim h
        simp only [Bool.and_eq_true, beq_iff_eq, bne_iff_ne, ne_eq] at hb
        obtain ⟨q', z, hi, hv, hc, hok⟩ := zeros_sound hz
        rw [hq] at hi
        obtain rfl := Option.some.inj hi
        have hne : zs.length ≠ 0 := by rw [hb.1.1]; exact hb.1.2
        have hle0 : ∀ m', lenA y = some m' → m ≤ m' := fun m' hm' => by rw [hm] at hm'; injection hm' with e; omega
        obtain ⟨new, h, hlen, hnok, hnewd⟩ := srcx_sound hw hy hle0 h
        have hnew := hnewd w.drawn
        have hlo := lenOf_sound (β := β) hm c.P w
        have hzc : ∀ k, Builtin.zeroCells z.cells k = ((repl zs (k * q.size)).map (A.val β)).toArray := fun k => by
          have := zeroCells_val (β := β) hne (hc β) k
          rwa [hb.1.1] at this
        have hzok : ∀ k, ∀ x ∈ repl zs k, x.fit β H.length := fun k => repl_ok (fun x hx => A.fit_of0 (hok x hx)) k
        cases x with
        | nils =>
          cases m with
          | zero =>
            refine ⟨_, _, _, _, h, ⟨trivial, trivial⟩, Mv.refl hw, ?_⟩
            rw [show A.val β .nils = .slice none 0 0 from rfl, append_fits ht htu hu hd hdz hq hlo (by omega) hnew]
            rfl
          | succ m =>
            obtain ⟨hbd, h⟩ := needx_elim h
            have hbd' := of_decide_eq_true hbd
            have hold : ∀ d, (Builtin.firstCells q.size 0 (.slice none 0 0)).run c.P { w with drawn := d } = .ok #[] { w with drawn := d } := fun d => by simp [Builtin.firstCells]
            obtain ⟨cap', hcap, hr⟩ := append_grows (ty := ty) ht htu hu hd hdz hq hb.2 hv (A0 := none) (n := 0) (cap := 0) hlo (by omega) (by simpa using hbd'.1) hold hnewd
            have mv := hw.alloc (.cells (new ++ repl zs ((cap' - (m + 1)) * q.size)) e false) (Ob.fit_cells fun x hx => by
              rcases List.mem_append.1 hx with hx | hx
              · exact hnok x hx
              · exact hzok _ x hx)
            refine ⟨_, _, _, _, h cap' (by omega), by simpa using fit_news (β := β), mv.tick (w.drawn + 1), ?_⟩
            rw [show A.val β .nils = .slice none 0 0 from rfl, hr, hzc]
            simp [V.val_a, A.val_slc, adr_new, Ob.obj, fz]
        | slc b off n cap =>
          simp only at h
          split at h
          · rename_i cs ty' mk hbk
            rcases condx_elim h with ⟨hle, h⟩ | ⟨hle, h⟩
            · have hle' : n + m ≤ cap := of_decide_eq_true hle
              obtain ⟨hbd, h⟩ := needx_elim h
              have hbd' : off + n * q.size + new.length ≤ cs.length := of_decide_eq_true hbd
              cases eb : β b with
              | none =>
                obtain ⟨rfl, rfl⟩ := hx.2 eb
                obtain ⟨hnil, mv⟩ := keep_row hw hbk eb hbd'
                obtain rfl : m = 0 := by omega
                refine ⟨_, _, _, w, h, ⟨by simpa [V.ok, A.ok] using hw.lenOf hbk, fun _ => ⟨rfl, rfl⟩⟩, mv, ?_⟩
                rw [A.val_slc, adr_none eb, append_fits ht htu hu hd hdz hq hlo hle' hnew]
                simp [V.val_a, A.val_slc, adr_none eb]
              | some bb =>
                obtain ⟨w', hr, mv⟩ := store_row hw eb hbk hbd' hnok
                refine ⟨_, _, _, w', h, ⟨by simpa [V.ok, A.ok] using hw.lenOf hbk, fun e => by rw [eb] at e; cases e⟩, mv, ?_⟩
                rw [A.val_slc, adr_some eb, append_fits ht htu hu hd hdz hq hlo hle' hnew]
                simp only [add_none]
                rw [hr]
                simp [V.val_a, A.val_slc, adr_some eb]
            · have hle' : ¬ n + m ≤ cap := of_decide_eq_false hle
              obtain ⟨hbd, h⟩ := needx_elim h
              have hbd' := of_decide_eq_true hbd
              have hold : ∀ d, (Builtin.firstCells q.size n (.slice (adr β b off) n cap)).run c.P { w with drawn := d } = .ok (((cs.take (off + n * q.size)).drop off).map (A.val β)).toArray { w with drawn := d } := fun d => by
               cases eb : β b with
               | none =>
                obtain ⟨rfl, rfl⟩ := hx.2 eb
                have hbr : cs = [] := hw.bare b _ hbk eb
                simp [Builtin.firstCells, hbr, adr_none eb]
               | some bb =>
                have := run_loadRow (P := c.P) (w := { w with drawn := d }) (xs := (cs.take (off + n * q.size)).drop off) (p := ⟨bb, off, none⟩) (β := β) (fun j y hy => by
                  rw [add_none]
                  exact (hw.tick d).cell hbk eb (getElem_slice hy))
                rw [length_slice hbd'.1] at this
                simp only [Builtin.firstCells, adr_some eb, this]
              obtain ⟨cap', hcap, hr⟩ := append_grows (ty := ty) ht htu hu hd hdz hq hb.2 hv hlo hle' hbd'.2.1 hold hnewd
              have mv := hw.alloc (.cells ((cs.take (off + n * q.size)).drop off ++ new ++ repl zs ((cap' - (n + m)) * q.size)) e false) (Ob.fit_cells fun x hx => by
                rcases List.mem_append.1 hx with hx | hx
                · rcases List.mem_append.1 hx with hx | hx
                  · exact ok_slice (hw.ok_cells hbk) x hx
                  · exact hnok x hx
                · exact hzok _ x hx)
              refine ⟨_, _, _, _, h cap' hcap, by simpa using fit_news (β := β), mv.tick (w.drawn + 1), ?_⟩
              rw [A.val_slc, hr, hzc]
              simp [V.val_a, A.val_slc, adr_new, Ob.obj, fz]
          · exact h.elim
        | _ => exact h.elim
      · exact h.elim
    · exact h.elim
  · exact h.elim
end opers
end Go.Eng
