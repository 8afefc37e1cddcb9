/- The engine, part C: code; loops; functions by their code. -/
import Derived.Test.YtkggpkgnkppceaaEngB
set_option linter.unusedVariables false
namespace Go.Eng

section any
variable {c : Ctx} {ops : Array Oper} {g : List Nat}
def flagOf (ops : Array Oper) (g : List Nat) (k : Nat) : Bool := match ops[k]? with
  | some o => growK ops g k o
  | none => true
theorem firstL_sound {i : Nat} {oi : Oper} {p : Bool} : ∀ (l : List Oper) (k : Nat) (D : List Nat), firstL ops g i oi p l k D = true → ∀ (j : Nat) (oj : Oper), l[j]? = some oj → k + j ≠ i → D.contains (k + j) = false → i ∉ depsL oj →
    apartL ops oi oj = true ∧ (p = true ∨ growK ops g (k + j) oj = true)
  | [], _, _, _, _, _, h, _, _, _ => by cases h
  | o :: l, k, D, h, j, oj, hj, hne, hD, hdep => by
    unfold firstL at h
    rw [Bool.and_eq_true] at h
    cases j with
    | zero =>
      simp only [List.getElem?_cons_zero, Option.some.injEq] at hj
      subst hj
      simp only [Nat.add_zero] at hne hD ⊢
      have h1 := h.1
      have hb : Nat.beq k i = false := by
        cases hb : Nat.beq k i with
        | false => rfl
        | true => exact absurd (Nat.eq_of_beq_eq_true hb) hne
      have hc : (depsL o).contains i = false := by
        cases hc : (depsL o).contains i with
        | false => rfl
        | true => exact absurd (by simpa using hc) hdep
      simp only [hb, hD, hc, Bool.false_or, Bool.and_eq_true, Bool.or_eq_true] at h1
      exact h1
    | succ j =>
      simp only [List.getElem?_cons_succ] at hj
      have := firstL_sound l (k + 1) D h.2 j oj hj (by omega) (by rwa [show k + 1 + j = k + (j + 1) by omega]) hdep
      rwa [show k + 1 + j = k + (j + 1) by omega] at this
theorem firstW_sound {i : Nat} {oi : Oper} {p : Bool} {W : List Nat} : ∀ (l : List Oper) (k : Nat) (D : List Nat), firstW ops g i oi p W l k D = true → ∀ (j : Nat) (oj : Oper), l[j]? = some oj → k + j ≠ i → D.contains (k + j) = false → W.contains (k + j) = false →
    apartL ops oi oj = true ∧ (p = true ∨ growK ops g (k + j) oj = true)
  | [], _, _, _, _, _, h, _, _, _ => by cases h
  | o :: l, k, D, h, j, oj, hj, hne, hD, hdep => by
    unfold firstW at h
    rw [Bool.and_eq_true] at h
    cases j with
    | zero =>
      simp only [List.getElem?_cons_zero, Option.some.injEq] at hj
      subst hj
      simp only [Nat.add_zero] at hne hD hdep ⊢
      have h1 := h.1
      have hb : Nat.beq k i = false := by
        cases hb : Nat.beq k i with
        | false => rfl
        | true => exact absurd (Nat.eq_of_beq_eq_true hb) hne
      simp only [hb, hD, hdep, Bool.false_or, Bool.and_eq_true, Bool.or_eq_true] at h1
      exact h1
    | succ j =>
      simp only [List.getElem?_cons_succ] at hj
      have := firstW_sound l (k + 1) D h.2 j oj hj (by omega) (by rwa [show k + 1 + j = k + (j + 1) by omega]) (by rwa [show k + 1 + j = k + (j + 1) by omega])
      rwa [show k + 1 + j = k + (j + 1) by omega] at this
theorem waitL_sound {i : Nat} : ∀ (l : List Oper) (k : Nat) (W : List Nat) {all : List Oper}, (∀ j o, l[j]? = some o → all[k + j]? = some o) → (∀ x ∈ W, ∃ o, all[x]? = some o ∧ ∃ d ∈ depsL o, d = i ∨ d ∈ waitL i l k W) →
    (∀ x ∈ W, x ∈ waitL i l k W) ∧ ∀ x ∈ waitL i l k W, ∃ o, all[x]? = some o ∧ ∃ d ∈ depsL o, d = i ∨ d ∈ waitL i l k W
  | [], k, W, all, _, h => ⟨fun x hx => hx, h⟩
  | o :: l, k, W, all, hl, h => by
    have hl' : ∀ j o', l[j]? = some o' → all[k + 1 + j]? = some o' := fun j o' hj => by
      have := hl (j + 1) o' (by simpa using hj)
      rwa [show k + (j + 1) = k + 1 + j by omega] at this
    unfold waitL at h ⊢
    cases e : (depsL o).any (fun d => Nat.beq d i || W.contains d) with
    | false =>
      simp only [e] at h ⊢
      exact waitL_sound l (k + 1) W hl' h
    | true =>
      simp only [e] at h ⊢
      obtain ⟨d, hd, hdd⟩ := List.any_eq_true.1 e
      have hsub : ∀ (l : List Oper) (k : Nat) (W : List Nat), ∀ x ∈ W, x ∈ waitL i l k W := by
        intro l
        induction l with
        | nil => intro k W x hx; exact hx
        | cons o l ih =>
          intro k W x hx
          unfold waitL
          split
          · exact ih _ _ x (List.mem_cons_of_mem _ hx)
          · exact ih _ _ x hx
      have hin : ∃ o', all[k]? = some o' ∧ ∃ d ∈ depsL o', d = i ∨ d ∈ waitL i l (k + 1) (k :: W) := by
        refine ⟨o, by simpa using hl 0 o rfl, d, hd, ?_⟩
        rcases (Bool.or_eq_true_iff.1 hdd) with h1 | h1
        · exact .inl (Nat.eq_of_beq_eq_true h1)
        · exact .inr (hsub l (k + 1) (k :: W) d (List.mem_cons_of_mem _ (by simpa using h1)))
      have := waitL_sound l (k + 1) (k :: W) hl' (fun x hx => by
        rcases List.mem_cons.1 hx with rfl | hx
        · exact hin
        · exact h x hx)
      exact ⟨fun x hx => this.1 x (List.mem_cons_of_mem _ hx), this.2⟩
/-- What a check for operation i says. -/
theorem firstX_sound {i : Nat} {oi : Oper} {p : Bool} {D : List Nat} (h : firstX ops g i oi p ops.toList D = true) : ∃ W V : Nat → Prop, (∀ k, V k → W k) ∧
    (∀ (j : Nat) (oj : Oper), ops[j]? = some oj → W j → ∃ e ∈ oj.after, Region.binds .any e = true ∧ (e.on = i ∨ V e.on)) ∧ (∀ k, V k → D.contains k = false) ∧
    ∀ (j : Nat) (oj : Oper), ops[j]? = some oj → j ≠ i → D.contains j = false → ¬ W j → apartL ops oi oj = true ∧ (p = true ∨ growK ops g j oj = true) := by
  unfold firstX at h
  rcases (Bool.or_eq_true_iff.1 h) with h | h
  · refine ⟨fun j => ∃ oj, ops[j]? = some oj ∧ i ∈ depsL oj, fun _ => False, fun _ h => h.elim, fun j oj hj ⟨o', ho', hi⟩ => ?_, fun _ h => h.elim, fun j oj hj hne hD hW => ?_⟩
    · rw [hj] at ho'
      injection ho' with ho'
      subst ho'
      obtain ⟨e, he1, he2, he3⟩ := mem_depsL.1 hi
      exact ⟨e, he1, he2, .inl he3⟩
    · have := firstL_sound ops.toList 0 D h j oj (by simpa using hj) (by simpa using hne) (by simpa using hD) (fun hm => hW ⟨oj, hj, hm⟩)
      simpa using this
  · rw [Bool.and_eq_true] at h
    have hw := waitL_sound (i := i) ops.toList 0 [] (all := ops.toList) (fun j o hj => by simpa using hj) (fun x hx => by cases hx)
    refine ⟨fun j => j ∈ waitL i ops.toList 0 [], fun j => j ∈ waitL i ops.toList 0 [], fun _ h => h, fun j oj hj hm => ?_, fun k hk => ?_, fun j oj hj hne hD hW => ?_⟩
    · obtain ⟨o', ho', d, hd, hor⟩ := hw.2 j hm
      rw [show ops.toList[j]? = some oj by simpa using hj] at ho'
      injection ho' with ho'
      subst ho'
      obtain ⟨e, he1, he2, he3⟩ := mem_depsL.1 hd
      exact ⟨e, he1, he2, by rw [he3]; exact hor⟩
    · have := List.all_eq_true.1 h.1 k hk
      simpa using this
    · have := firstW_sound ops.toList 0 D h.2 j oj (by simpa using hj) (by simpa using hne) (by simpa using hD) (by simpa using hW)
      simpa using this
theorem noSel_sound : ∀ (l : List Oper), noSel ops l = true → ∀ o ∈ l, ∀ cs b, o.op ≠ .select cs b
  | [], _, o, h, _, _ => by cases h
  | x :: l, h, o, ho, cs, b => by
    unfold noSel at h
    split at h
    · cases h
    · rename_i hx
      cases ho with
      | head => exact fun e => hx cs b e
      | tail _ ho => exact noSel_sound l h o ho cs b
theorem allx_elim : ∀ {r : List Nat} {f : Nat → Prop}, allx r f → ∀ i ∈ r, f i
  | [i], f, h, j, hj => by
    simp only [List.mem_singleton] at hj
    subst hj
    exact h
  | i :: k :: l, f, h, j, hj => by
    rcases List.mem_cons.1 hj with rfl | hj
    · exact h.1
    · exact allx_elim (r := k :: l) h.2 j hj
theorem pickL_sound {P : Program} {F : Frm} {D : List Nat} : ∀ {r : List Nat} {i : Nat}, pickL P F ops g D r = some i → i ∈ r ∧ ∃ oi, ops[i]? = some oi ∧ isStill P F oi = true ∧ firstX ops g i oi (kindOf P F oi).2 ops.toList D = true
  | [], i, h => by cases h
  | k :: r, i, h => by
    unfold pickL at h
    split at h
    · rename_i oi ho
      split at h
      · rename_i hb
        injection h with h
        subst h
        rw [Bool.and_eq_true] at hb
        exact ⟨by simp, oi, ho, hb.1, hb.2⟩
      · have := pickL_sound h
        exact ⟨by simp [this.1], this.2⟩
    · have := pickL_sound h
      exact ⟨by simp [this.1], this.2⟩

theorem anyx_sound {Q : Exit → Act → World → Prop} (hQ : ∀ c a w, ¬ Q (.panic c) a w) (hQo : ¬ LetsOut Q) (he : edgesL ops.size ops.toList = true) (hsel : noSel ops ops.toList = true) :
    ∀ (n : Nat) {D : List Nat} {F : Frm} {H : Hp} {K : Frm → Hp → Prop}, anyx c.P c.ro c.nt ops g n D F H K → (∀ F H a w, K F H → Sat c F H a w → Q .normal a w) →
      ∀ listed a w, Lists ops D listed → Sat c F H a w → anyG c.P ops (flagOf ops g) Q n listed a w
  | 0, D, F, H, K, h, hq, listed, a, w, hl, hs => by
    unfold anyx at h
    split at h
    · rename_i hr
      refine ⟨?_, hq F H a w h hs⟩
      cases hx : Region.ready .any ops listed with
      | nil => rfl
      | cons x xs =>
        have : x ∈ rdyL ops.toList 0 D := (ready_iff hl he x).1 (by rw [hx]; simp)
        rw [hr] at this
        cases this
    · exact h.elim
  | n + 1, D, F, H, K, h, hq, listed, a, w, hl, hs => by
    have hsel' : ∀ (j : Nat) (o : Oper) cs b, ops[j]? = some o → o.op ≠ .select cs b := fun j o cs b hj =>
      noSel_sound _ hsel o (by have := Array.mem_of_getElem? hj; simpa using this) cs b
    unfold anyx at h
    split at h
    · rename_i hr
      refine ⟨fun _ => hq F H a w h hs, fun i hi => ?_⟩
      have := (ready_iff hl he i).1 hi
      rw [hr] at this
      cases this
    · rename_i hr0
      split at h
      · rename_i i hpick
        obtain ⟨hir, oi, hoi, hst, hfirst⟩ := pickL_sound hpick
        simp only [hoi] at h
        obtain ⟨hd, h⟩ := needx_elim (show needx _ _ from h)
        have hd' := dst_lt hd
        have hready : i ∈ Region.ready .any ops listed := (ready_iff hl he i).2 hir
        obtain ⟨W, V, hVW, hWc, hVD, hfr⟩ := firstX_sound hfirst
        have hVl : ∀ k, V k → listed.getD k true = false ∨ listed.size ≤ k := fun k hk => by
          rcases Nat.lt_or_ge k ops.size with h' | h'
          · exact .inl (by rw [hl.getT h']; exact hVD k hk)
          · exact .inr (by rw [hl.1]; exact h')
        have free : ∀ j oj, ops[j]? = some oj → j ≠ i → listed.getD j true = false → ¬ W j → oi.apart ops oj = true ∧ ((kindOf c.P F oi).2 = true ∨ flagOf ops g j = true) := by
          intro j oj hj hne hun hno
          have hjlt : j < ops.size := (Array.getElem?_eq_some_iff.1 hj).1
          have hD : D.contains j = false := by rw [← hl.getT hjlt]; exact hun
          have := hfr j oj hj hne hD hno
          refine ⟨apartL_sound this.1, ?_⟩
          simp only [flagOf, hj]
          exact this.2
        obtain ⟨β, hw, hf⟩ := hs
        rcases guardx_sound hf h with ⟨hwant, h⟩ | ⟨hwant, h⟩
        · by_cases hp : (kindOf c.P F oi).2 = true
          · obtain ⟨v, hk, hv⟩ := opx_pure h hp
            rw [nextx_eq] at hk
            have hrun := fun w => (hv β a w hf).2
            refine anyG_first (C := fun _ => True) (fun _ _ _ _ => trivial) hoi hsel' hQ hQo hVW hWc n listed a w hVl (fun j oj hj hne hun hno => ?_) hready (.inl ⟨hwant, fun w _ => hrun w⟩) trivial ?_
            · have := free j oj hj hne hun hno
              exact ⟨this.1, .inl fun _ => trivial⟩
            · exact anyx_sound hQ hQo he hsel n hk hq _ _ _ (hl.cons i) ⟨β, hw, hf.put (Mv.refl hw) hd' (hv β a w hf).1⟩
          · obtain ⟨v, hk, hv⟩ := opx_still h hst
            rw [nextx_eq] at hk
            refine anyG_first (C := fun w => WSat c β H w) (fun _ _ h g => h.grow g) hoi hsel' hQ hQo hVW hWc n listed a w hVl (fun j oj hj hne hun hno => ?_) hready (.inl ⟨hwant, fun w hw => (hv β a w hw hf).2⟩) hw ?_
            · have := free j oj hj hne hun hno
              exact ⟨this.1, this.2.elim (fun e => absurd e hp) .inr⟩
            · exact anyx_sound hQ hQo he hsel n hk hq _ _ _ (hl.cons i) ⟨β, hw, hf.put (Mv.refl hw) hd' (hv β a w hw hf).1⟩
        · refine anyG_first (C := fun _ => True) (fun _ _ _ _ => trivial) hoi hsel' hQ hQo hVW hWc n listed a w hVl (fun j oj hj hne hun hno => ?_) hready (.inr ⟨hwant, rfl⟩) trivial ?_
          · have := free j oj hj hne hun hno
            exact ⟨this.1, .inl fun _ => trivial⟩
          · exact anyx_sound hQ hQo he hsel n h hq _ _ _ (hl.cons i) ⟨β, hw, fsat_undef hf hw hd'⟩
      · refine ⟨fun hr => ?_, fun i hi => ?_⟩
        · exfalso
          cases hx : rdyL ops.toList 0 D with
          | nil => exact hr0 hx
          | cons x xs =>
            have : x ∈ Region.ready .any ops listed := (ready_iff hl he x).2 (by rw [hx]; simp)
            rw [hr] at this
            cases this
        · have h := allx_elim h i ((ready_iff hl he i).1 hi)
          obtain ⟨β, hw, hf⟩ := hs
          unfold opG
          split at h
          · rename_i o ho
            simp only [ho]
            obtain ⟨hd, h⟩ := needx_elim (show needx _ _ from h)
            have hd' := dst_lt hd
            have hfl : flagOf ops g i = growK ops g i o := by simp [flagOf, ho]
            rcases guardx_sound hf h with ⟨hwant, h⟩ | ⟨hwant, h⟩
            · rw [if_pos hwant]
              refine opx_ok h β a w hw hf _ _ fun v H' β' w' hk hv mv => ?_
              rw [hfl]
              unfold growx at hk
              split at hk
              · rw [nextx_eq] at hk
                exact ⟨fun _ => mv.grows hw hk.1, anyx_sound hQ hQo he hsel n hk.2 hq _ _ _ (hl.cons i) ⟨β', mv.sat, hf.put mv hd' hv⟩⟩
              · rename_i hb
                rw [nextx_eq] at hk
                exact ⟨fun e => absurd e (by simp [hb]), anyx_sound hQ hQo he hsel n hk hq _ _ _ (hl.cons i) ⟨β', mv.sat, hf.put mv hd' hv⟩⟩
            · rw [if_neg (by simp [hwant])]
              exact anyx_sound hQ hQo he hsel n h hq _ _ _ (hl.cons i) ⟨β, hw, fsat_undef hf hw hd'⟩
          · exact h.elim

/-- One order of a region, and for each operation why it may come then: 0: nothing else is ready; 1: it is still, all others but grow the heap; else: it is pure. -/
def okCode (P : Program) (F : Frm) (o : Oper) : Nat → Bool
  | 0 => true
  | 1 => isStill P F o
  | _ => isStill P F o && (kindOf P F o).2
def seqCons (P : Program) (ro : Addr → A → Prop) (nt : Nat) (ops : Array Oper) (g : List Nat) (x : Nat × Nat) (k : Frm → Hp → (Frm → Hp → Prop) → Prop) (F : Frm) (H : Hp) (K : Frm → Hp → Prop) : Prop :=
  match ops[x.1]? with
    | some o => match x.2 with
      | 0 => stepG P ro nt ops (growK ops g x.1 o) o F H fun F H => k F H K
      | c => needx (okCode P F o c) (stepx P ro nt ops o F H fun F H => k F H K)
    | none => False
def seqx (P : Program) (ro : Addr → A → Prop) (nt : Nat) (ops : Array Oper) (g : List Nat) (l : List (Nat × Nat)) : Frm → Hp → (Frm → Hp → Prop) → Prop :=
  List.rec (motive := fun _ => Frm → Hp → (Frm → Hp → Prop) → Prop) opsNil (fun x _ k => seqCons P ro nt ops g x k) l
def chkT (ops : Array Oper) (g : List Nat) : List (Nat × Nat) → List Nat → Bool
  | [], D => (rdyL ops.toList 0 D).isEmpty
  | (i, c) :: l, D => (match ops[i]? with
    | some o => match c with
      | 0 => rdyL ops.toList 0 D == [i]
      | 1 => (rdyL ops.toList 0 D).contains i && firstX ops g i o false ops.toList D
      | _ => (rdyL ops.toList 0 D).contains i && firstX ops g i o true ops.toList D
    | none => false) && chkT ops g l (i :: D)
@[irreducible] def regOK (P : Program) (ops : Array Oper) (g : List Nat) (tab : List (Nat × Nat)) : Bool :=
  edgesL ops.size ops.toList && noSel ops ops.toList && P.follows .mixedOrders && Nat.ble tab.length ops.size && chkT ops g tab []
theorem seqx_sound {Q : Exit → Act → World → Prop} (hQ : ∀ c a w, ¬ Q (.panic c) a w) (hQo : ¬ LetsOut Q) (he : edgesL ops.size ops.toList = true) (hsel : noSel ops ops.toList = true) :
    ∀ (l : List (Nat × Nat)) (n : Nat) {D : List Nat} {F : Frm} {H : Hp} {K : Frm → Hp → Prop}, l.length ≤ n → chkT ops g l D = true → seqx c.P c.ro c.nt ops g l F H K → (∀ F H a w, K F H → Sat c F H a w → Q .normal a w) →
      ∀ listed a w, Lists ops D listed → Sat c F H a w → anyG c.P ops (flagOf ops g) Q n listed a w
  | [], n, D, F, H, K, hn, hc, h, hq, listed, a, w, hl, hs => by
    have hr : rdyL ops.toList 0 D = [] := by simpa [chkT] using hc
    cases n with
    | zero =>
      refine ⟨?_, hq F H a w h hs⟩
      cases hx : Region.ready .any ops listed with
      | nil => rfl
      | cons x xs =>
        have : x ∈ rdyL ops.toList 0 D := (ready_iff hl he x).1 (by rw [hx]; simp)
        rw [hr] at this
        cases this
    | succ n =>
      refine ⟨fun _ => hq F H a w h hs, fun i hi => ?_⟩
      have := (ready_iff hl he i).1 hi
      rw [hr] at this
      cases this
  | (i, cd) :: l, 0, D, F, H, K, hn, hc, h, hq, listed, a, w, hl, hs => by simp at hn
  | (i, cd) :: l, n + 1, D, F, H, K, hn, hc, h, hq, listed, a, w, hl, hs => by
    have hsel' : ∀ (j : Nat) (o : Oper) cs b, ops[j]? = some o → o.op ≠ .select cs b := fun j o cs b hj =>
      noSel_sound _ hsel o (by have := Array.mem_of_getElem? hj; simpa using this) cs b
    have hn' : l.length ≤ n := by simpa using hn
    replace h : seqCons c.P c.ro c.nt ops g (i, cd) (seqx c.P c.ro c.nt ops g l) F H K := h
    unfold seqCons at h
    simp only at h
    unfold chkT at hc
    rw [Bool.and_eq_true] at hc
    obtain ⟨hc, hcl⟩ := hc
    split at h
    · rename_i oi hoi
      simp only [hoi] at hc
      obtain ⟨β, hw, hf⟩ := hs
      have still : ∀ p, ((rdyL ops.toList 0 D).contains i && firstX ops g i oi p ops.toList D) = true → (p = true → (kindOf c.P F oi).2 = true) → isStill c.P F oi = true → stepx c.P c.ro c.nt ops oi F H (fun F H => seqx c.P c.ro c.nt ops g l F H K) → anyG c.P ops (flagOf ops g) Q (n + 1) listed a w := by
        intro p hp hpp hst h
        rw [Bool.and_eq_true] at hp
        obtain ⟨hir, hfirst⟩ := hp
        obtain ⟨W, V, hVW, hWc, hVD, hfr⟩ := firstX_sound hfirst
        have hVl : ∀ k, V k → listed.getD k true = false ∨ listed.size ≤ k := fun k hk => by
          rcases Nat.lt_or_ge k ops.size with h' | h'
          · exact .inl (by rw [hl.getT h']; exact hVD k hk)
          · exact .inr (by rw [hl.1]; exact h')
        have free : ∀ j oj, ops[j]? = some oj → j ≠ i → listed.getD j true = false → ¬ W j → oi.apart ops oj = true ∧ (p = true ∨ flagOf ops g j = true) := by
          intro j oj hj hne hun hno
          have hjlt : j < ops.size := (Array.getElem?_eq_some_iff.1 hj).1
          have hD : D.contains j = false := by rw [← hl.getT hjlt]; exact hun
          have := hfr j oj hj hne hD hno
          refine ⟨apartL_sound this.1, ?_⟩
          simp only [flagOf, hj]
          exact this.2
        have hready : i ∈ Region.ready .any ops listed := (ready_iff hl he i).2 (by simpa using hir)
        obtain ⟨hd, h⟩ := needx_elim (show needx _ _ from h)
        have hd' := dst_lt hd
        rcases guardx_sound hf h with ⟨hwant, h⟩ | ⟨hwant, h⟩
        · by_cases hpu : (kindOf c.P F oi).2 = true
          · obtain ⟨v, hk, hv⟩ := opx_pure h hpu
            rw [nextx_eq] at hk
            have hrun := fun w => (hv β a w hf).2
            refine anyG_first (C := fun _ => True) (fun _ _ _ _ => trivial) hoi hsel' hQ hQo hVW hWc n listed a w hVl (fun j oj hj hne hun hno => ?_) hready (.inl ⟨hwant, fun w _ => hrun w⟩) trivial ?_
            · have := free j oj hj hne hun hno
              exact ⟨this.1, .inl fun _ => trivial⟩
            · exact seqx_sound hQ hQo he hsel l n hn' hcl hk hq _ _ _ (hl.cons i) ⟨β, hw, hf.put (Mv.refl hw) hd' (hv β a w hf).1⟩
          · obtain ⟨v, hk, hv⟩ := opx_still h hst
            rw [nextx_eq] at hk
            refine anyG_first (C := fun w => WSat c β H w) (fun _ _ h g => h.grow g) hoi hsel' hQ hQo hVW hWc n listed a w hVl (fun j oj hj hne hun hno => ?_) hready (.inl ⟨hwant, fun w hw => (hv β a w hw hf).2⟩) hw ?_
            · have := free j oj hj hne hun hno
              exact ⟨this.1, this.2.elim (fun e => absurd (hpp e) hpu) .inr⟩
            · exact seqx_sound hQ hQo he hsel l n hn' hcl hk hq _ _ _ (hl.cons i) ⟨β, hw, hf.put (Mv.refl hw) hd' (hv β a w hw hf).1⟩
        · refine anyG_first (C := fun _ => True) (fun _ _ _ _ => trivial) hoi hsel' hQ hQo hVW hWc n listed a w hVl (fun j oj hj hne hun hno => ?_) hready (.inr ⟨hwant, rfl⟩) trivial ?_
          · have := free j oj hj hne hun hno
            exact ⟨this.1, .inl fun _ => trivial⟩
          · exact seqx_sound hQ hQo he hsel l n hn' hcl h hq _ _ _ (hl.cons i) ⟨β, hw, fsat_undef hf hw hd'⟩
      split at h
      · have hr : rdyL ops.toList 0 D = [i] := by simpa using hc
        refine ⟨fun hr' => ?_, fun j hj => ?_⟩
        · exfalso
          have : i ∈ Region.ready .any ops listed := (ready_iff hl he i).2 (by rw [hr]; simp)
          rw [hr'] at this
          cases this
        · have hji : j = i := by
            have := (ready_iff hl he j).1 hj
            rw [hr] at this
            simpa using this
          subst hji
          unfold opG
          simp only [hoi]
          obtain ⟨hd, h⟩ := needx_elim (show needx _ _ from h)
          have hd' := dst_lt hd
          have hfl : flagOf ops g j = growK ops g j oi := by simp [flagOf, hoi]
          rcases guardx_sound hf h with ⟨hwant, h⟩ | ⟨hwant, h⟩
          · rw [if_pos hwant]
            refine opx_ok h β a w hw hf _ _ fun v H' β' w' hk hv mv => ?_
            rw [hfl]
            unfold growx at hk
            split at hk
            · rw [nextx_eq] at hk
              exact ⟨fun _ => mv.grows hw hk.1, seqx_sound hQ hQo he hsel l n hn' hcl hk.2 hq _ _ _ (hl.cons j) ⟨β', mv.sat, hf.put mv hd' hv⟩⟩
            · rename_i hb
              rw [nextx_eq] at hk
              exact ⟨fun e => absurd e (by simp [hb]), seqx_sound hQ hQo he hsel l n hn' hcl hk hq _ _ _ (hl.cons j) ⟨β', mv.sat, hf.put mv hd' hv⟩⟩
          · rw [if_neg (by simp [hwant])]
            exact seqx_sound hQ hQo he hsel l n hn' hcl h hq _ _ _ (hl.cons j) ⟨β, hw, fsat_undef hf hw hd'⟩
      · rename_i hne
        obtain ⟨hok, h2⟩ := needx_elim h
        clear h
        match cd, hne, hc, hok with
        | 0, hne, _, _ => exact absurd rfl hne
        | 1, _, hc, hok => exact still false hc (fun e => absurd e (by simp)) hok h2
        | k + 2, _, hc, hok =>
          have hok' : (isStill c.P F oi && (kindOf c.P F oi).2) = true := hok
          rw [Bool.and_eq_true] at hok'
          exact still true hc (fun _ => hok'.2) hok'.1 h2
    · exact h.elim
end any
end Go.Eng
