/- The engine, part M: arguments with slices inside; a measure that bounds them. -/
import Derived.Test.YtglbldhineggaaaEngI
set_option linter.unusedVariables false
namespace Go.Eng
open Go.ChangeShapes Go.WideShapes

/-- A measure of data: not less than what is inside. -/
structure Bulk {H : Type} (m : DataW H → Nat) : Prop where
  part : ∀ (l : List (DataW H)) d, d ∈ l → m d ≤ m (.agg l)
  elem : ∀ (l r : List (DataW H)) d, d ∈ l → m d ≤ m (.slice l r)
  rest : ∀ (l r : List (DataW H)) d, d ∈ r → m d ≤ m (.slice l r)
  len : ∀ l r : List (DataW H), l.length + r.length < m (.slice l r)
  str : ∀ b, b.length ≤ m (.lit (.string b))
/-- Kinds of cells: without memory behind them; a slice of such. -/
inductive Sd where
  | sc (s : Sc)
  | sl (c : Nat) (ks : List Sc)
def Sd.fits (W : World) (B : Nat) : Sd → A → Prop
  | .sc s, x => s.fits x
  | .sl c ks, x => ∃ len cap F, IsSl W c ks x len cap F ∧ cap < B
def FitsD (W : World) (B : Nat) : List Sd → List A → Prop
  | [], [] => True
  | s :: ss, x :: xs => s.fits W B x ∧ FitsD W B ss xs
  | _, _ => False
theorem FitsD.append {W : World} {B : Nat} : ∀ {ss : List Sd} {xs : List A} {ts : List Sd} {ys : List A}, FitsD W B ss xs → FitsD W B ts ys → FitsD W B (ss ++ ts) (xs ++ ys)
  | [], [], _, _, _, h => h
  | [], _ :: _, _, _, h, _ => h.elim
  | _ :: _, [], _, _, h, _ => h.elim
  | _ :: _, _ :: _, _, _, h, h' => ⟨h.1, FitsD.append h.2 h'⟩
theorem FitsD.ofFits {W : World} {B : Nat} : ∀ {ss : List Sc} {xs : List A}, Fits ss xs → FitsD W B (ss.map .sc) xs
  | [], [], _ => trivial
  | [], _ :: _, h => h.elim
  | _ :: _, [], h => h.elim
  | _ :: _, _ :: _, h => ⟨h.1, FitsD.ofFits h.2⟩
theorem Sd.fits_ok {W : World} {B : Nat} {s : Sd} {x : A} (h : s.fits W B x) : x.ok 0 := by
  cases s with
  | sc s => exact Sc.fits_ok h
  | sl c ks => obtain ⟨len, cap, F, h, _⟩ := h; exact h.ok
theorem FitsD.ok {W : World} {B : Nat} : ∀ {ss : List Sd} {xs : List A}, FitsD W B ss xs → ∀ x ∈ xs, x.ok 0
  | [], [], _, _, hx => by cases hx
  | [], _ :: _, h, _, _ => h.elim
  | _ :: _, [], h, _, _ => h.elim
  | _ :: _, _ :: _, h, x, hx => by
    rcases List.mem_cons.1 hx with rfl | hx
    · exact Sd.fits_ok h.1
    · exact FitsD.ok h.2 x hx
def scdF (P : Program) (rec : TypeId → Option (List Sd)) : List Field → Nat → Nat → Option (List Sd)
  | [], off, e => if off = e then some [] else none
  | f :: fs, off, e => if f.offset = off then match rec f.type, scdF P rec fs (off + P.cellsOf f.type) e with
    | some l, some r => some (l ++ r)
    | _, _ => none
    else none
def scd (P : Program) : Nat → TypeId → Option (List Sd)
  | 0, _ => none
  | d + 1, t => match scal P (d + 1) t with
    | some l => some (l.map .sc)
    | none => match P.underlying t with
      | some (.slice e) => match scal P d e with
        | some l => some [.sl (P.cellsOf e) l]
        | none => none
      | some (.struct fs) => scdF P (scd P d) fs.toList 0 (P.cellsOf t)
      | _ => none
section
variable {H : Type} {enc : TypeId × Value → H} {P : Program} {w : World} {base : Nat} {held : Bool} {m : DataW H → Nat}
theorem scdF_read {rec : TypeId → Option (List Sd)} {n B : Nat} {ok : DataW H → Prop} (ih : ∀ t ks, rec t = some ks → ∀ cs x, DataW.trod enc P w base (fun _ => true) held n t cs = some x → ok x.1 → ∃ xs : List A, cs = xs.map (A.val fun _ => none) ∧ FitsD w B ks xs) {cs : List Value} :
    ∀ (fs : List Field) (off e : Nat) (ks : List Sd), scdF P rec fs off e = some ks → cs.length = e → (∀ f ∈ fs, ∃ x, DataW.trod enc P w base (fun _ => true) held n f.type ((cs.drop f.offset).take (P.cellsOf f.type)) = some x ∧ ok x.1) →
      ∃ xs : List A, cs.drop off = xs.map (A.val fun _ => none) ∧ FitsD w B ks xs
  | [], off, e, ks, h, hl, _ => by
    unfold scdF at h
    split at h
    · rename_i he
      injection h with h
      subst h
      exact ⟨[], by rw [List.drop_eq_nil_of_le (by omega)]; rfl, trivial⟩
    · cases h
  | f :: fs, off, e, ks, h, hl, hall => by
    unfold scdF at h
    split at h
    · rename_i ho
      split at h
      · rename_i l r h1 h2
        injection h with h
        subst h
        obtain ⟨x, hx, hb⟩ := hall f (by simp)
        obtain ⟨xs, e1, f1⟩ := ih _ _ h1 _ _ hx hb
        obtain ⟨ys, e2, f2⟩ := scdF_read ih fs _ e r h2 hl (fun g hg => hall g (by simp [hg]))
        refine ⟨xs ++ ys, ?_, f1.append f2⟩
        rw [List.map_append, ← e1, ← e2, ho, ← List.drop_drop, List.take_append_drop]
      · cases h
    · cases h
theorem scd_read (hm : Bulk m) {B : Nat} (hB : 0 < B) : ∀ (d : Nat) (t : TypeId) (ks : List Sd), scd P d t = some ks → ∀ (fuel : Nat) (cs : List Value) (x : DataW H × List MemPlace), DataW.trod enc P w base (fun _ => true) held fuel t cs = some x → m x.1 ≤ B →
    ∃ xs : List A, cs = xs.map (A.val fun _ => none) ∧ FitsD w B ks xs
  | 0, _, _, h => by cases h
  | d + 1, t, ks, h => by
    intro fuel cs x hx hb
    simp only [scd] at h
    split at h
    · rename_i l hl
      injection h with h; subst h
      obtain ⟨xs, e, f⟩ := scal_read (fun _ => none) (d + 1) t l hl fuel cs x hx
      exact ⟨xs, e, .ofFits f⟩
    · split at h
      · rename_i e hu
        split at h
        · rename_i l hl
          injection h with h; subst h
          have hv : ∃ a l c, cs = [Value.slice a l c] := by
            rcases DataW.trod_slice hu hx with ⟨h0, _⟩ | ⟨a', len, cap, _, _, _, _, h1, _⟩
            · exact ⟨_, _, _, h0⟩
            · exact ⟨_, _, _, h1⟩
          obtain ⟨a, n, k, rfl⟩ := hv
          obtain ⟨y, len, cap, F, e1, e2, e3⟩ := open_sls (v := .slice a n k) hu hl (show DataW.trod enc P w base (fun _ => true) held fuel t (Value.slice a n k).cells.toList = some x from hx) ⟨_, _, _, rfl⟩
          refine ⟨[y], by rw [e1]; rfl, ⟨len, cap, F, e2, ?_⟩, trivial⟩
          rcases e3 with e3 | ⟨el, sp, e3, e4⟩
          · omega
          · have := hm.len el sp
            rw [e3] at hb
            omega
        · cases h
      · rename_i fs hu
        obtain ⟨xs, n, rfl, hxe, hl, hxl, hall⟩ := DataW.trod_struct hu hx
        obtain ⟨ys, e, f⟩ := scdF_read (ok := fun d => m d ≤ B) (fun t ks hk cs x hx hb => scd_read hm hB d t ks hk n cs x hx hb) fs.toList 0 _ ks h hl (fun f hf => by
          obtain ⟨i, hi⟩ := List.getElem?_of_mem hf
          have hi' : fs[i]? = some f := by simpa using hi
          rw [hall i f hi']
          have hlt : i < xs.length := by
            rw [hxl]
            exact (Array.getElem?_eq_some_iff.1 hi').1
          refine ⟨xs[i], by simp [hlt], ?_⟩
          have := hm.part (xs.map (·.1)) xs[i].1 (List.mem_map.2 ⟨xs[i], List.getElem_mem hlt, rfl⟩)
          rw [hxe] at hb
          exact Nat.le_trans this hb)
        exact ⟨ys, by simpa using e, f⟩
      · cases h
/-- A slice of such cells: element by element. -/
def IsSlD (W : World) (B c : Nat) (ks : List Sd) (x : A) (len cap : Nat) (F : Nat → List A) : Prop :=
  (x = .nils ∧ len = 0 ∧ cap = 0) ∨ ∃ p, x = .rslc p len cap ∧ len ≤ cap ∧ cap < B ∧ ∀ i, i < len → FitsD W B ks (F i) ∧ (F i).length = c ∧ ∀ j y, (F i)[j]? = some y → roOf W (p.add (i * c + j)) y
theorem IsSlD.ok {W : World} {B c : Nat} {ks : List Sd} {x : A} {len cap : Nat} {F : Nat → List A} (h : IsSlD W B c ks x len cap F) : x.ok 0 := by
  rcases h with ⟨rfl, _⟩ | ⟨p, rfl, _⟩ <;> trivial
theorem open_sld (hm : Bulk m) {B d : Nat} (hB : 0 < B) {t e : TypeId} {ks : List Sd} (ht : P.underlying t = some (.slice e)) (hk : scd P d e = some ks) {fuel : Nat} {v : Value} {x : DataW H × List MemPlace} (h : DataW.trod enc P w base (fun _ => true) held fuel t v.cells.toList = some x) (hb : m x.1 ≤ B) (hv : ∃ a l c, v = .slice a l c) :
    ∃ y len cap F, v = (V.a y).val (fun _ => none) ∧ IsSlD w B (P.cellsOf e) ks y len cap F := by
  obtain ⟨a, l, c, rfl⟩ := hv
  have hcs : (Value.slice a l c).cells.toList = [.slice a l c] := rfl
  rw [hcs] at h
  rcases DataW.trod_slice ht h with ⟨h0, _⟩ | ⟨a', len, cap, elems, rest, n, _, h1, hx, hbase, hl, hmx, hlen, hel, hsp, _⟩
  · simp only [List.cons.injEq, Value.slice.injEq, and_true] at h0
    obtain ⟨rfl, rfl, rfl⟩ := h0
    exact ⟨.nils, 0, 0, fun _ => [], rfl, .inl ⟨rfl, rfl, rfl⟩⟩
  · simp only [List.cons.injEq, Value.slice.injEq, and_true] at h1
    obtain ⟨rfl, rfl, rfl⟩ := h1
    have hx1 : x.1 = .slice (elems.map (·.1)) (rest.map (·.1)) := congrArg Prod.fst hx
    rw [hx1] at hb
    have hcapB : c < B := by
      have := hm.len (elems.map (·.1)) (rest.map (·.1))
      rw [List.length_map, List.length_map, hlen, (hsp rfl).1] at this
      omega
    have each : ∀ i, i < l → ∃ xs : List A, FitsD w B ks xs ∧ xs.length = P.cellsOf e ∧ ∀ j y, xs[j]? = some y → roOf w (a'.add (i * P.cellsOf e + j)) y := by
      intro i hi
      have hlt : i < elems.length := by omega
      have hb' := hel i hi
      rw [show elems[i]? = some elems[i] by simp [hlt]] at hb'
      obtain ⟨cs', hcs', hy'⟩ := Option.bind_eq_some_iff.1 hb'
      have hbe : m elems[i].1 ≤ B := Nat.le_trans (hm.elem (elems.map (·.1)) (rest.map (·.1)) elems[i].1 (List.mem_map.2 ⟨elems[i], List.getElem_mem hlt, rfl⟩)) hb
      obtain ⟨xs, rfl, hf⟩ := scd_read hm hB d e ks hk _ _ _ hy' hbe
      obtain ⟨_, hlen', hcell⟩ := World.cells?_some hcs'
      refine ⟨xs, hf, by simpa using hlen', fun j y hj => ?_⟩
      have hjl : j < xs.length := (List.getElem?_eq_some_iff.1 hj).1
      refine ⟨hf.ok y (List.mem_of_getElem? hj), ?_⟩
      have := hcell j (by rw [← hlen', List.length_map]; exact hjl)
      rw [addr_add_add] at this
      rw [this]
      simp [hj]
    classical
    refine ⟨.rslc a' l c, l, c, fun i => if h : i < l then (each i h).choose else [], rfl, .inr ⟨a', rfl, hl, hcapB, fun i hi => ?_⟩⟩
    simp only [dif_pos hi]
    exact (each i hi).choose_spec
/-- A value of such cells. -/
theorem open_vald (hm : Bulk m) {B d : Nat} (hB : 0 < B) {t : TypeId} {ks : List Sd} (hk : scd P d t = some ks) {fuel : Nat} {v : Value} {x : DataW H × List MemPlace} (h : DataW.trod enc P w base (fun _ => true) held fuel t v.cells.toList = some x) (hb : m x.1 ≤ B) :
    ∃ xs : List A, v.cells.toList = xs.map (A.val fun _ => none) ∧ FitsD w B ks xs := scd_read hm hB d t ks hk _ _ _ h hb
end
theorem FitsD.int {W : World} {B : Nat} {k : IntKind} {ss : List Sd} {xs : List A} (h : FitsD W B (.sc (.int k) :: ss) xs) : ∃ n ys, xs = .int k n :: ys ∧ (k.min ≤ n ∧ n ≤ k.max) ∧ FitsD W B ss ys := by
  cases xs with
  | nil => exact h.elim
  | cons x ys =>
    obtain ⟨h1, h2⟩ := h
    replace h1 : (Sc.int k).fits x := h1
    cases x <;> simp only [Sc.fits] at h1 <;> try exact h1.elim
    obtain ⟨rfl, h3⟩ := h1
    exact ⟨_, ys, rfl, h3, h2⟩
theorem FitsD.bool {W : World} {B : Nat} {ss : List Sd} {xs : List A} (h : FitsD W B (.sc .bool :: ss) xs) : ∃ b ys, xs = .bool b :: ys ∧ FitsD W B ss ys := by
  cases xs with
  | nil => exact h.elim
  | cons x ys =>
    obtain ⟨h1, h2⟩ := h
    replace h1 : (Sc.bool).fits x := h1
    cases x <;> simp only [Sc.fits] at h1 <;> try exact h1.elim
    exact ⟨_, ys, rfl, h2⟩
theorem FitsD.str {W : World} {B : Nat} {ss : List Sd} {xs : List A} (h : FitsD W B (.sc .str :: ss) xs) : ∃ s ys, xs = .str s :: ys ∧ s.size ≤ maxLen ∧ FitsD W B ss ys := by
  cases xs with
  | nil => exact h.elim
  | cons x ys =>
    obtain ⟨h1, h2⟩ := h
    replace h1 : (Sc.str).fits x := h1
    cases x <;> simp only [Sc.fits] at h1 <;> try exact h1.elim
    exact ⟨_, ys, rfl, h1, h2⟩
theorem FitsD.sl {W : World} {B c : Nat} {ks : List Sc} {ss : List Sd} {xs : List A} (h : FitsD W B (.sl c ks :: ss) xs) : ∃ x ys len cap F, xs = x :: ys ∧ IsSl W c ks x len cap F ∧ cap < B ∧ FitsD W B ss ys := by
  cases xs with
  | nil => exact h.elim
  | cons x ys =>
    obtain ⟨⟨len, cap, F, h1, h3⟩, h2⟩ := h
    exact ⟨x, ys, len, cap, F, rfl, h1, h3, h2⟩
theorem FitsD.nil {W : World} {B : Nat} {xs : List A} (h : FitsD W B [] xs) : xs = [] := by
  cases xs with
  | nil => rfl
  | cons x ys => exact h.elim
end Go.Eng
