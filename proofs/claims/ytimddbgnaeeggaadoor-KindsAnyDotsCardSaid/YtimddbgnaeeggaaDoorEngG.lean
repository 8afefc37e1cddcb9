/- The engine, parts G. -/
import Derived.Test.YtimddbgnaeeggaaDoorEngF
/- The engine, part G: a contract over few blocks, used where there are more. -/
set_option linter.unusedVariables false
namespace Go.Eng

def frD (ds : List Nat) (n i : Nat) : Nat := match ds[i]? with
  | some d => d
  | none => n + (i - ds.length)
def plugL (δ : Nat → Nat) : List Nat → Hp → Hp → Hp
  | d :: ds, o :: os, H => plugL δ ds os (H.set d (o.ren δ))
  | [], os, H => H ++ os.map (Ob.ren δ)
  | _ :: _, [], H => H
theorem A.ren_ok {δ : Nat → Nat} {n m : Nat} (h : ∀ i, i < n → δ i < m) : ∀ {x : A}, x.ok n → (x.ren δ).ok m := by
  intro x
  induction x with
  | ptr i o => intro h'; exact h i h'
  | slc i o l c => intro h'; exact h i h'
  | clo f caps => intro h' q hq; obtain ⟨r, hr, rfl⟩ := List.mem_map.1 hq; exact h _ (h' r hr)
  | ifc t x ih => intro h'; exact ih h'
  | _ => intro _; trivial
theorem E.ren_ok {δ : Nat → Nat} {n m : Nat} (h : ∀ i, i < n → δ i < m) {x : E} (hx : x.ok n) : (x.ren δ).ok m := by
  cases x with
  | a x => exact A.ren_ok h hx
  | g cs => intro y hy; obtain ⟨r, hr, rfl⟩ := List.mem_map.1 hy; exact A.ren_ok h (hx r hr)
theorem V.ren_ok {δ : Nat → Nat} {n m : Nat} (h : ∀ i, i < n → δ i < m) {x : V} (hx : x.ok n) : (x.ren δ).ok m := by
  cases x with
  | a x => exact A.ren_ok h hx
  | g cs => intro y hy; obtain ⟨r, hr, rfl⟩ := List.mem_map.1 hy; exact A.ren_ok h (hx r hr)
  | t xs => intro y hy; obtain ⟨r, hr, rfl⟩ := List.mem_map.1 hy; exact E.ren_ok h (hx r hr)
theorem Ob.ren_ok {δ : Nat → Nat} {n m : Nat} (h : ∀ i, i < n → δ i < m) {x : Ob} (hx : x.ok n) : (x.ren δ).ok m := by
  cases x with
  | cells cs ty mk => intro y hy; obtain ⟨r, hr, rfl⟩ := List.mem_map.1 hy; exact A.ren_ok h (hx r hr)
  | iter s p => trivial
theorem plugL_length (δ : Nat → Nat) : ∀ (ds : List Nat) (os H : Hp), ds.length ≤ os.length → (plugL δ ds os H).length = H.length + (os.length - ds.length)
  | [], os, H, _ => by simp [plugL]
  | d :: ds, [], H, h => by simp at h
  | d :: ds, o :: os, H, h => by
    unfold plugL
    rw [plugL_length δ ds os _ (by simpa using h)]
    simp
theorem plugL_out (δ : Nat → Nat) : ∀ (ds : List Nat) (os H : Hp), ds.length ≤ os.length → ∀ i, i < H.length → i ∉ ds → (plugL δ ds os H)[i]? = H[i]?
  | [], os, H, _, i, hi, _ => by simp [plugL, List.getElem?_append_left hi]
  | d :: ds, [], H, h, i, hi, _ => by simp at h
  | d :: ds, o :: os, H, h, i, hi, hn => by
    unfold plugL
    rw [plugL_out δ ds os _ (by simpa using h) i (by simpa using hi) (fun hm => hn (by simp [hm]))]
    rw [List.getElem?_set_ne (fun e => hn (by simp [e]))]
theorem plugL_in (δ : Nat → Nat) : ∀ (ds : List Nat) (os H : Hp), ds.length ≤ os.length → nodupb ds = true → ∀ (j d : Nat) (o : Ob), ds[j]? = some d → d < H.length → os[j]? = some o → (plugL δ ds os H)[d]? = some (o.ren δ)
  | [], os, H, _, _, j, d, o, hj, _, _ => by simp at hj
  | e :: ds, [], H, h, _, _, _, _, _, _, _ => by simp at h
  | e :: ds, u :: os, H, h, hnd, j, d, o, hj, hd, ho => by
    unfold plugL
    simp only [nodupb, Bool.and_eq_true] at hnd
    cases j with
    | zero =>
      simp only [List.getElem?_cons_zero, Option.some.injEq] at hj ho
      subst hj ho
      have hnot : e ∉ ds := fun hm => by
        have := List.all_eq_true.1 hnd.1 e hm
        simp at this
      rw [plugL_out δ ds os _ (by simpa using h) e (by simpa using hd) hnot]
      simp [hd]
    | succ j =>
      exact plugL_in δ ds os _ (by simpa using h) hnd.2 j d o (by simpa using hj) (by simpa using hd) (by simpa using ho)
theorem plugL_new (δ : Nat → Nat) : ∀ (ds : List Nat) (os H : Hp), ds.length ≤ os.length → ∀ i, H.length ≤ i → (plugL δ ds os H)[i]? = (os[ds.length + (i - H.length)]?).map (Ob.ren δ)
  | [], os, H, _, i, hi => by simp [plugL, List.getElem?_append_right hi]
  | d :: ds, [], H, h, i, hi => by simp at h
  | d :: ds, o :: os, H, h, i, hi => by
    unfold plugL
    rw [plugL_new δ ds os _ (by simpa using h) i (by simpa using hi)]
    simp only [List.length_set, List.length_cons]
    rw [show ds.length + 1 + (i - H.length) = (ds.length + (i - H.length)) + 1 by omega, List.getElem?_cons_succ]

theorem Fn.frame {P : Program} {ro : Addr → A → Prop} {f : FuncId} {args args₀ : List V} {H H₀ : Hp} {K : V → Hp → Prop} (ds : List Nat)
    (ha : args₀.map (V.ren (dsOf ds)) = args) (hb : Blks (dsOf ds) H 0 H₀)
    (hc : (Nat.beq ds.length H₀.length && nodupb ds && args₀.all (V.okb H₀.length) && H₀.all (Ob.okb H₀.length)) = true)
    (hf : Fn P ro f args₀ H₀ (fun v H' => K (v.ren (frD ds H.length)) (plugL (frD ds H.length) ds H' H))) : Fn P ro f args H K := by
  simp only [Bool.and_eq_true] at hc
  obtain ⟨⟨⟨h1, h2⟩, h3⟩, h4⟩ := hc
  have hl : ds.length = H₀.length := Nat.eq_of_beq_eq_true h1
  replace hf := hf.run
  refine ⟨fun β w hok hw => ?_⟩
  have hlt : ∀ i, i < H₀.length → dsOf ds i < H.length := fun i hi => hw.lenOf (by simpa using hb.get i H₀[i] (by simp [hi]))
  have hds : ∀ i, i < H₀.length → ds[i]? = some (dsOf ds i) := fun i hi => by
    unfold dsOf
    rw [List.getElem?_eq_getElem (by omega)]
  have hinj : ∀ i j, i < H₀.length → j < H₀.length → dsOf ds i = dsOf ds j → i = j := fun i j hi hj e =>
    nodupb_sound h2 i j _ (hds i hi) (by rw [e]; exact hds j hj)
  have roOK : RoOK ro (fun i => β (dsOf ds i)) H₀.length w := by
    refine ⟨hw.ro.spot, hw.ro.ext, fun p x hx => ?_, fun p x hx i hi => hw.rout hx (hlt i hi)⟩
    rw [hw.rcell hx, A.val_congr (n := 0) (fun i hi => absurd hi (Nat.not_lt_zero i)) (hw.ro.ext p x hx)]
  have hw₀ : WSat { P := P, ro := ro, n0 := H₀.length, β0 := fun i => β (dsOf ds i), w0 := w, nt := 0 } (fun i => β (dsOf ds i)) H₀ w := by
    refine ⟨fun i j b hi hj e e' => hinj i j hi hj (hw.inj _ _ b (hlt i hi) (hlt j hj) e e'), fun i b o ho e => ?_, fun i o ho e => Ob.ren_bare (hw.bare _ _ (by simpa using hb.get i o ho) e), fun i o ho => ⟨Ob.okb_sound (List.all_eq_true.1 h4 o (List.mem_of_getElem? ho)), Ob.ren_gh (hw.ok _ _ (show H[dsOf ds i]? = some (o.ren (dsOf ds)) by simpa using hb.get i o ho)).2⟩, fun _ _ => rfl, Nat.le_refl _, Fr.refl _ _ _, fun i b h1 h2 => absurd h2 (Nat.not_lt.2 h1), roOK⟩
    rw [← Ob.ren_obj]
    exact hw.blk _ b _ (by simpa using hb.get i o ho) e
  have hok₀ : ∀ v ∈ args₀, v.fit (fun i => β (dsOf ds i)) H₀.length := fun v hv => ⟨V.okb_sound (List.all_eq_true.1 h3 v hv), V.ren_gh (hok _ (by rw [← ha]; exact List.mem_map.2 ⟨v, hv, rfl⟩)).2⟩
  have hargs : (args.map (V.val β)).toArray = (args₀.map (V.val fun i => β (dsOf ds i))).toArray := by
    rw [← ha, List.map_map]
    congr 1
    exact List.map_congr_left fun v _ => V.ren_val β (dsOf ds) v
  rw [hargs]
  refine (hf (fun i => β (dsOf ds i)) w hok₀ hw₀).mono ?_
  rintro e w' ⟨v, H', β', hk, he, hv, mv⟩
  have ms := mv.sat
  have hlen : H₀.length ≤ H'.length := mv.len
  have hlen' : ds.length ≤ H'.length := by omega
  let δ := frD ds H.length
  let β₂ : Num := fun i => if i < H.length then β i else β' (H₀.length + (i - H.length))
  have hδ1 : ∀ i, i < H₀.length → δ i = dsOf ds i := fun i hi => by
    show frD ds H.length i = _
    unfold frD
    rw [hds i hi]
  have hδ2 : ∀ i, H₀.length ≤ i → δ i = H.length + (i - H₀.length) := fun i hi => by
    show frD ds H.length i = _
    unfold frD
    rw [List.getElem?_eq_none (by omega), hl]
  have hβδ : ∀ i, i < H'.length → β₂ (δ i) = β' i := fun i hi => by
    show (if _ then _ else _) = _
    rcases Nat.lt_or_ge i H₀.length with h' | h'
    · rw [hδ1 i h', if_pos (hlt i h')]
      exact (mv.agree i h').symm
    · rw [hδ2 i h', if_neg (by omega)]
      congr 1
      omega
  have hL : (plugL δ ds H' H).length = H.length + (H'.length - H₀.length) := by rw [plugL_length δ ds H' H hlen', hl]
  have hδlt : ∀ i, i < H'.length → δ i < (plugL δ ds H' H).length := fun i hi => by
    rcases Nat.lt_or_ge i H₀.length with h' | h'
    · rw [hδ1 i h', hL]; have := hlt i h'; omega
    · rw [hδ2 i h', hL]; omega
  have hag : ∀ i, i < H.length → β₂ i = β i := fun i hi => if_pos hi
  have obval : ∀ o : Ob, o.ok H'.length → (o.ren δ).obj β₂ = o.obj β' := fun o ho => by
    rw [Ob.ren_obj]
    exact Ob.obj_congr (n := H'.length) (fun i hi => hβδ i hi) ho
  -- each block of the new heap: an old one that stays, or one of the callee's
  have blocks : ∀ i o, (plugL δ ds H' H)[i]? = some o → (i < H.length ∧ H[i]? = some o ∧ ∀ j, j < H₀.length → dsOf ds j ≠ i) ∨ ∃ j o', j < H'.length ∧ H'[j]? = some o' ∧ o = o'.ren δ ∧ i = δ j := by
    intro i o ho
    rcases Nat.lt_or_ge i H.length with h' | h'
    · by_cases hm : i ∈ ds
      · obtain ⟨j, hj⟩ := List.getElem?_of_mem hm
        have hjl : j < H₀.length := by rw [← hl]; exact (List.getElem?_eq_some_iff.1 hj).1
        have hj' : j < H'.length := by omega
        have := plugL_in δ ds H' H hlen' h2 j i H'[j] hj h' (by simp [hj'])
        rw [this] at ho
        injection ho with ho
        refine .inr ⟨j, H'[j], hj', by simp [hj'], ho.symm, ?_⟩
        rw [hδ1 j hjl]
        have := hds j hjl
        rw [hj] at this
        exact Option.some.inj this
      · rw [plugL_out δ ds H' H hlen' i h' hm] at ho
        refine .inl ⟨h', ho, fun j hj e => hm ?_⟩
        have := hds j hj
        rw [e] at this
        exact List.mem_of_getElem? this
    · rw [plugL_new δ ds H' H hlen' i h', hl] at ho
      obtain ⟨o', ho', rfl⟩ := Option.map_eq_some_iff.1 ho
      have hj : H₀.length + (i - H.length) < H'.length := (List.getElem?_eq_some_iff.1 ho').1
      refine .inr ⟨H₀.length + (i - H.length), o', hj, ho', rfl, ?_⟩
      rw [hδ2 _ (by omega)]
      omega
  have sizes : ∀ i b, i < H.length → β i = some b → b < w.heap.size := fun i b hi e => hw.lt hi e
  have hfr : Fr w β H.length w' := by
    refine ⟨mv.fr.os, mv.fr.tape, mv.fr.output, mv.fr.size, fun k hk' hn => mv.fr.keep k hk' fun i hi => hn _ (hlt i hi)⟩
  have hnew : ∀ i b, H.length ≤ i → i < (plugL δ ds H' H).length → β₂ i = some b → w.heap.size ≤ b := fun i b h1' h2' e => by
    have e' : (if i < H.length then β i else β' (H₀.length + (i - H.length))) = some b := e
    rw [if_neg (by omega)] at e'
    exact mv.new _ b (by omega) (by rw [hL] at h2'; omega) e'
  have hgt : ∀ i, i < H'.length → (fun i => β₂ (δ i)) i = β' i := hβδ
  refine ⟨v.ren δ, plugL δ ds H' H, β₂, hk, ?_, ⟨V.ren_ok hδlt hv.1, V.gh_ren (V.gh_congr hgt hv.1 hv.2)⟩, ⟨⟨?_, ?_, ?_, ?_, hag, by rw [hL]; exact Nat.le_add_right _ _, hfr, hnew, hw.ro⟩, hag, by rw [hL]; exact Nat.le_add_right _ _, hfr, hnew⟩⟩
  · rw [he, V.ren_val]
    congr 1
    exact V.val_congr (n := H'.length) (fun i hi => (hβδ i hi).symm) hv.1
  · intro i j b hi hj ei ej
    have ei' : (if i < H.length then β i else β' (H₀.length + (i - H.length))) = some b := ei
    have ej' : (if j < H.length then β j else β' (H₀.length + (j - H.length))) = some b := ej
    rw [hL] at hi hj
    rcases Nat.lt_or_ge i H.length with hi' | hi' <;> rcases Nat.lt_or_ge j H.length with hj' | hj'
    · rw [if_pos hi'] at ei'
      rw [if_pos hj'] at ej'
      exact hw.inj i j b hi' hj' ei' ej'
    · rw [if_pos hi'] at ei'
      rw [if_neg (by omega)] at ej'
      have a1 := sizes i b hi' ei'
      have a2 := mv.new (H₀.length + (j - H.length)) b (by omega) (by omega) ej'
      omega
    · rw [if_neg (by omega)] at ei'
      rw [if_pos hj'] at ej'
      have a1 := sizes j b hj' ej'
      have a2 := mv.new (H₀.length + (i - H.length)) b (by omega) (by omega) ei'
      omega
    · rw [if_neg (by omega)] at ei' ej'
      have := ms.inj _ _ b (by omega) (by omega) ei' ej'
      omega
  · intro i b o ho e
    rcases blocks i o ho with ⟨hi, ho', hn⟩ | ⟨j, o', hj, ho', rfl, rfl⟩
    · rw [hag i hi] at e
      rw [Ob.obj_congr hag (hw.ok i o ho').1]
      rw [mv.fr.keep b (sizes i b hi e) fun j hj ej => hn j hj (hw.inj _ _ b (hlt j hj) hi ej e)]
      exact hw.blk i b o ho' e
    · rw [hβδ j hj] at e
      rw [obval o' (ms.ok j o' ho').1]
      exact ms.blk j b o' ho' e
  · intro i o ho e
    rcases blocks i o ho with ⟨hi, ho', hn⟩ | ⟨j, o', hj, ho', rfl, rfl⟩
    · rw [hag i hi] at e
      exact hw.bare i o ho' e
    · rw [hβδ j hj] at e
      have := ms.bare j o' ho' e
      cases o' with
      | cells cs ty mk => exact List.map_eq_nil_iff.2 this
      | iter s p => exact this
  · intro i o ho
    rcases blocks i o ho with ⟨hi, ho', hn⟩ | ⟨j, o', hj, ho', rfl, rfl⟩
    · exact Ob.fit_move hag (by rw [hL]; exact Nat.le_add_right _ _) (hw.ok i o ho')
    · exact ⟨Ob.ren_ok hδlt (ms.ok j o' ho').1, Ob.gh_ren (Ob.gh_congr hgt (ms.ok j o' ho').1 (ms.ok j o' ho').2)⟩
theorem Fn.of {P : Program} {ro : Addr → A → Prop} {f : FuncId} {fn : Func} {x : Code} {args : List V} {H : Hp} {K : V → Hp → Prop} (n0 : Nat) (g : Hints) (h0 : H.length = n0) (hf : P.funcs[f]? = some fn) (hb : fn.body = some x) (hn : args.length ≤ fn.ntmps)
    (h : wpx P ro fn.ntmps n0 g x (frm0 0 args) H (endx P ro fn.results.toList K)) : Fn P ro f args H K := by subst h0; exact Fn.of_code g hf hb hn h
theorem y'g {H H' : Hp} {K : Prop} (h : H <+: H') (k : K) : H <+: H' ∧ K := ⟨h, k⟩
theorem forceN_of {n : Nat} {K : Nat → Prop} (h : K n) : forceN n K := by rw [forceN_eq]; exact h
theorem y'4 {x : A} {K : A → Prop} (h : K x) : forceA x K := by rw [forceA_eq]; exact h
theorem forceL_of {l : List A} {K : List A → Prop} (h : K l) : forceL l K := by rw [forceL_eq]; exact h
theorem IsSl.ok {W : World} {c : Nat} {ks : List Sc} {x : A} {len cap : Nat} {F : Nat → List A} (h : IsSl W c ks x len cap F) : x.ok 0 := by
  rcases h with ⟨rfl, _⟩ | ⟨p, rfl, _⟩ <;> trivial
/-! The same rules, on what 'whnf' leaves of the words. -/
theorem y'p {b : Bool} {T E : Prop} (h : b = true) (k : T) : condx.match_1 (fun _ => Prop) b (fun _ => T) (fun _ => E) := by subst h; exact k
theorem y'q {b : Bool} {T E : Prop} (h : b = false) (k : E) : condx.match_1 (fun _ => Prop) b (fun _ => T) (fun _ => E) := by subst h; exact k
theorem y'b {b v : Bool} {T E : Prop} (h : b = v) (k : condx v T E) : condx.match_1 (fun _ => Prop) b (fun _ => T) (fun _ => E) := by subst h; exact k
theorem y'c {b : Bool} {T E : Prop} (t : b = true → T) (e : b = false → E) : condx.match_1 (fun _ => Prop) b (fun _ => T) (fun _ => E) := by cases b <;> simp_all
theorem y'n {b : Bool} {K : Prop} (h : b = true) (k : K) : condx.match_1 (fun _ => Prop) b (fun _ => K) (fun _ => False) := by subst h; exact k
theorem y'3 {n : Nat} {K : Nat → Prop} (h : K n) : forceN n K := by rw [forceN_eq]; exact h
theorem forceNm_to {n n' : Nat} {K : Nat → Prop} (e : n = n') (h : K n') : forceN n K := by subst e; exact y'3 h
theorem forceO_of {o : Ob} {K : Ob → Prop} (h : K o) : forceO o K := by rw [forceO_eq]; exact h
theorem forceV_of {o : V} {K : V → Prop} (h : K o) : forceV o K := by rw [forceV_eq]; exact h
theorem y'o {α : Type} {o : Option α} {K : α → Prop} {x : α} (h : o = some x) (k : K x) : optx.match_1 (fun _ => Prop) o (fun x => K x) (fun _ => False) := by subst h; exact k
end Go.Eng
