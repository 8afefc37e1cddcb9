/- The engine, part F: arguments, read in the row. -/
import Derived.Test.YtkggpkgnkppceaaEngE
import Derived.WalkKit
import Derived.OpenShut
import Derived.ChangeOld
set_option linter.unusedVariables false
namespace Go.Eng
open Go.ChangeShapes Go.WideShapes

/-- What can be read of a world. -/
def roOf (W : World) (p : Addr) (x : A) : Prop := x.ok 0 ∧ W.cell? p = some (x.val fun _ => none)
theorem roOf.ok (W : World) : RoOK (roOf W) (fun _ => none) 0 W := by
  refine ⟨fun p x h => ?_, fun p x h => h.1, fun p x h => h.2, fun p x h i hi => absurd hi (Nat.not_lt_zero _)⟩
  have := h.2
  unfold World.cell? at this
  split at this
  · cases hs : p.spot with
    | none => rfl
    | some s => simp [hs] at this
  · cases this
/-- Kinds of cells without memory behind them. -/
inductive Sc where
  | bool
  | int (k : IntKind)
  | flt (k : FloatKind)
  | str
def Sc.fits : Sc → A → Prop
  | .bool, .bool _ => True
  | .int k, .int k' n => k' = k ∧ k.min ≤ n ∧ n ≤ k.max
  | .flt .f32, .flt k' b => k' = .f32 ∧ b < 2 ^ 32
  | .flt .f64, .flt k' b => k' = .f64 ∧ b < 2 ^ 64
  | .str, .str s => s.size ≤ maxLen
  | _, _ => False
def Fits : List Sc → List A → Prop
  | [], [] => True
  | s :: ss, x :: xs => s.fits x ∧ Fits ss xs
  | _, _ => False
theorem Fits.append : ∀ {ss : List Sc} {xs : List A} {ts : List Sc} {ys : List A}, Fits ss xs → Fits ts ys → Fits (ss ++ ts) (xs ++ ys)
  | [], [], _, _, _, h => h
  | [], _ :: _, _, _, h, _ => h.elim
  | _ :: _, [], _, _, h, _ => h.elim
  | _ :: _, _ :: _, _, _, h, h' => ⟨h.1, Fits.append h.2 h'⟩
theorem Sc.fits_ok {s : Sc} {x : A} (h : s.fits x) : x.ok 0 := by
  unfold Sc.fits at h
  split at h <;> first | trivial | exact h.elim
theorem Fits.ok : ∀ {ss : List Sc} {xs : List A}, Fits ss xs → ∀ x ∈ xs, x.ok 0
  | [], [], _, _, hx => by cases hx
  | [], _ :: _, h, _, _ => h.elim
  | _ :: _, [], h, _, _ => h.elim
  | _ :: _, _ :: _, h, x, hx => by
    rcases List.mem_cons.1 hx with rfl | hx
    · exact Sc.fits_ok h.1
    · exact Fits.ok h.2 x hx
def scalF (P : Program) (rec : TypeId → Option (List Sc)) : List Field → Nat → Nat → Option (List Sc)
  | [], off, e => if off = e then some [] else none
  | f :: fs, off, e => if f.offset = off then match rec f.type, scalF P rec fs (off + P.cellsOf f.type) e with
    | some l, some r => some (l ++ r)
    | _, _ => none
    else none
def scal (P : Program) : Nat → TypeId → Option (List Sc)
  | 0, _ => none
  | d + 1, t => match P.underlying t with
    | some .bool => some [.bool]
    | some (.int k) => some [.int k]
    | some (.float k) => some [.flt k]
    | some .string => some [.str]
    | some (.struct fs) => scalF P (scal P d) fs.toList 0 (P.cellsOf t)
    | some (.array n e) => if n * P.cellsOf e = P.cellsOf t then match scal P d e with
      | some l => some (List.replicate n l).flatten
      | none => none
      else none
    | _ => none
section
variable {H : Type} {enc : TypeId × Value → H} {P : Program} {w : World} {base : Nat} {spare : Nat → Bool} {held : Bool}
theorem trod_float' {k : FloatKind} {fuel : Nat} {t : TypeId} {cs : List Value} {x : DataW H × List MemPlace} (ht : P.underlying t = some (.float k)) (h : DataW.trod enc P w base spare held fuel t cs = some x) : ∃ n, cs = [.float k n] ∧ (Lit.float k n).wf = true := by
  cases fuel with
  | zero => simp [DataW.trod] at h
  | succ n =>
    unfold DataW.trod at h
    rw [ht] at h
    split at h <;> simp_all
theorem scalF_read {rec : TypeId → Option (List Sc)} {n : Nat} (β : Num) (ih : ∀ t ks, rec t = some ks → ∀ cs x, DataW.trod enc P w base spare held n t cs = some x → ∃ xs : List A, cs = xs.map (A.val β) ∧ Fits ks xs) {cs : List Value} :
    ∀ (fs : List Field) (off e : Nat) (ks : List Sc), scalF P rec fs off e = some ks → cs.length = e → (∀ f ∈ fs, ∃ x, DataW.trod enc P w base spare held n f.type ((cs.drop f.offset).take (P.cellsOf f.type)) = some x) →
      ∃ xs : List A, cs.drop off = xs.map (A.val β) ∧ Fits ks xs
  | [], off, e, ks, h, hl, _ => by
    unfold scalF at h
    split at h
    · rename_i he
      injection h with h
      subst h
      exact ⟨[], by rw [List.drop_eq_nil_of_le (by omega)]; rfl, trivial⟩
    · cases h
  | f :: fs, off, e, ks, h, hl, hall => by
    unfold scalF at h
    split at h
    · rename_i ho
      split at h
      · rename_i l r h1 h2
        injection h with h
        subst h
        obtain ⟨x, hx⟩ := hall f (by simp)
        obtain ⟨xs, e1, f1⟩ := ih _ _ h1 _ _ hx
        obtain ⟨ys, e2, f2⟩ := scalF_read β ih fs _ e r h2 hl (fun g hg => hall g (by simp [hg]))
        refine ⟨xs ++ ys, ?_, f1.append f2⟩
        rw [List.map_append, ← e1, ← e2, ho, ← List.drop_drop, List.take_append_drop]
      · cases h
    · cases h
theorem scalA_read {l : List Sc} {n : Nat} {e : TypeId} (β : Num) (ih : ∀ cs x, DataW.trod enc P w base spare held n e cs = some x → ∃ xs : List A, cs = xs.map (A.val β) ∧ Fits l xs) {cs : List Value} :
    ∀ (k i : Nat), cs.length = (i + k) * P.cellsOf e → (∀ j, i ≤ j → j < i + k → ∃ x, DataW.trod enc P w base spare held n e ((cs.drop (j * P.cellsOf e)).take (P.cellsOf e)) = some x) →
      ∃ xs : List A, cs.drop (i * P.cellsOf e) = xs.map (A.val β) ∧ Fits (List.replicate k l).flatten xs
  | 0, i, hl, _ => ⟨[], by rw [List.drop_eq_nil_of_le (by simp [hl])]; rfl, trivial⟩
  | k + 1, i, hl, hall => by
    obtain ⟨x, hx⟩ := hall i (Nat.le_refl _) (by omega)
    obtain ⟨xs, e1, f1⟩ := ih _ _ hx
    obtain ⟨ys, e2, f2⟩ := scalA_read β ih k (i + 1) (by rw [hl]; congr 1; omega) (fun j h1 h2 => hall j (by omega) (by omega))
    refine ⟨xs ++ ys, ?_, ?_⟩
    · rw [List.map_append, ← e1, ← e2, Nat.add_mul, Nat.one_mul, ← List.drop_drop, List.take_append_drop]
    · rw [List.replicate_succ, List.flatten_cons]
      exact f1.append f2
theorem scal_read (β : Num) : ∀ (d : Nat) (t : TypeId) (ks : List Sc), scal P d t = some ks → ∀ (fuel : Nat) (cs : List Value) (x : DataW H × List MemPlace), DataW.trod enc P w base spare held fuel t cs = some x →
    ∃ xs : List A, cs = xs.map (A.val β) ∧ Fits ks xs
  | 0, _, _, h => by cases h
  | d + 1, t, ks, h => by
    intro fuel cs x hx
    simp only [scal] at h
    split at h
    · rename_i hu
      injection h with h; subst h
      obtain ⟨b, rfl, _⟩ := DataW.trod_bool hu hx
      exact ⟨[.bool b], rfl, trivial, trivial⟩
    · rename_i k hu
      injection h with h; subst h
      obtain ⟨n, rfl, _, hw⟩ := DataW.trod_int hu hx
      simp only [Lit.wf, Bool.and_eq_true, decide_eq_true_eq] at hw
      exact ⟨[.int k n], rfl, ⟨rfl, hw.1, hw.2⟩, trivial⟩
    · rename_i k hu
      injection h with h; subst h
      obtain ⟨n, rfl, hw⟩ := trod_float' hu hx
      cases k <;> simp only [Lit.wf, decide_eq_true_eq] at hw
      · exact ⟨[.flt .f32 n], rfl, ⟨rfl, hw⟩, trivial⟩
      · exact ⟨[.flt .f64 n], rfl, ⟨rfl, hw⟩, trivial⟩
    · rename_i hu
      injection h with h; subst h
      obtain ⟨s, rfl, _, hw⟩ := DataW.trod_string hu hx
      exact ⟨[.str s], rfl, hw, trivial⟩
    · rename_i fs hu
      obtain ⟨xs, n, rfl, _, hl, hxl, hall⟩ := DataW.trod_struct hu hx
      obtain ⟨ys, e, f⟩ := scalF_read β (fun t ks hk cs x hx => scal_read β d t ks hk n cs x hx) fs.toList 0 _ ks h hl (fun f hf => by
        obtain ⟨i, hi⟩ := List.getElem?_of_mem hf
        have hi' : fs[i]? = some f := by simpa using hi
        rw [hall i f hi']
        have : i < xs.length := by
          rw [hxl]
          exact (Array.getElem?_eq_some_iff.1 hi').1
        exact ⟨xs[i], by simp [this]⟩)
      exact ⟨ys, by simpa using e, f⟩
    · rename_i n e hu
      split at h
      · rename_i hn
        split at h
        · rename_i l hl'
          injection h with h; subst h
          obtain ⟨xs, m, rfl, _, hl, hxl, hall⟩ := DataW.trod_array hu hx
          obtain ⟨ys, e1, f⟩ := scalA_read (P := P) (w := w) (base := base) (spare := spare) (held := held) (enc := enc) (l := l) (n := m) (e := e) β (fun cs x hx => scal_read β d e l hl' m cs x hx) (cs := cs) n 0 (by rw [hl, ← hn, Nat.zero_add]) (fun j _ hj => by
            rw [hall j (by omega)]
            exact ⟨xs[j], by simp [show j < xs.length by omega]⟩)
          exact ⟨ys, by simpa using e1, f⟩
        · cases h
      · cases h
    · cases h
/-- A slice of such cells: element by element. -/
def IsSl (W : World) (c : Nat) (ks : List Sc) (x : A) (len cap : Nat) (F : Nat → List A) : Prop :=
  (x = .nils ∧ len = 0 ∧ cap = 0) ∨ ∃ p, x = .rslc p len cap ∧ len ≤ cap ∧ cap ≤ maxLen ∧ ∀ i, i < cap → Fits ks (F i) ∧ (F i).length = c ∧ ∀ j y, (F i)[j]? = some y → roOf W (p.add (i * c + j)) y
theorem addr_add_add (p : Addr) (n m : Nat) : (p.add n).add m = p.add (n + m) := by
  unfold Addr.add
  by_cases h : n = 0
  · simp [h]
  · by_cases h' : m = 0
    · simp [h, h']
    · simp [h, h', Nat.add_assoc]
theorem open_sl {d : Nat} {t e : TypeId} {ks : List Sc} (ht : P.underlying t = some (.slice e)) (hk : scal P d e = some ks) {fuel : Nat} {v : Value} {x : DataW H × List MemPlace} (h : DataW.trod enc P w base (fun _ => true) held fuel t v.cells.toList = some x) (hv : ∃ a l c, v = .slice a l c) :
    ∃ y len cap F, v = (V.a y).val (fun _ => none) ∧ IsSl w (P.cellsOf e) ks y len cap F := by
  obtain ⟨a, l, c, rfl⟩ := hv
  have hcs : (Value.slice a l c).cells.toList = [.slice a l c] := rfl
  rw [hcs] at h
  rcases DataW.trod_slice ht h with ⟨h0, _⟩ | ⟨a', len, cap, elems, rest, n, _, h1, _, hb, hl, hm, hlen, hel, hsp, _⟩
  · simp only [List.cons.injEq, Value.slice.injEq, and_true] at h0
    obtain ⟨rfl, rfl, rfl⟩ := h0
    exact ⟨.nils, 0, 0, fun _ => [], rfl, .inl ⟨rfl, rfl, rfl⟩⟩
  · simp only [List.cons.injEq, Value.slice.injEq, and_true] at h1
    obtain ⟨rfl, rfl, rfl⟩ := h1
    have each : ∀ i, i < c → ∃ xs : List A, Fits ks xs ∧ xs.length = P.cellsOf e ∧ ∀ j y, xs[j]? = some y → roOf w (a'.add (i * P.cellsOf e + j)) y := by
      intro i hi
      have hb' : ∃ y, (w.cells? base (a'.add (i * P.cellsOf e)) (P.cellsOf e)).bind (DataW.trod enc P w base (fun _ => true) held n e) = some y := by
        by_cases hi' : i < l
        · rw [hel i hi']
          exact ⟨elems[i]'(by omega), by simp [show i < elems.length by omega]⟩
        · obtain ⟨hrl, hr⟩ := hsp rfl
          have := hr (i - l) (by omega)
          rw [show l + (i - l) = i by omega] at this
          rw [this]
          exact ⟨rest[i - l]'(by omega), by simp [show i - l < rest.length by omega]⟩
      obtain ⟨y, hy⟩ := hb'
      obtain ⟨cs', hcs', hy'⟩ := Option.bind_eq_some_iff.1 hy
      obtain ⟨xs, rfl, hf⟩ := scal_read (fun _ => none) d e ks hk _ _ _ hy'
      obtain ⟨_, hlen', hcell⟩ := World.cells?_some hcs'
      refine ⟨xs, hf, by simpa using hlen', fun j y hj => ?_⟩
      have hjl : j < xs.length := (List.getElem?_eq_some_iff.1 hj).1
      refine ⟨hf.ok y (List.mem_of_getElem? hj), ?_⟩
      have := hcell j (by rw [← hlen', List.length_map]; exact hjl)
      rw [addr_add_add] at this
      rw [this]
      simp [hj]
    classical
    refine ⟨.rslc a' l c, l, c, fun i => if h : i < c then (each i h).choose else [], rfl, .inr ⟨a', rfl, hl, hm, fun i hi => ?_⟩⟩
    simp only [dif_pos hi]
    exact (each i hi).choose_spec
/-- A value of such cells. -/
theorem open_val {d : Nat} {t : TypeId} {ks : List Sc} (hk : scal P d t = some ks) {fuel : Nat} {v : Value} {x : DataW H × List MemPlace} (h : DataW.trod enc P w base spare held fuel t v.cells.toList = some x) :
    ∃ xs : List A, v.cells.toList = xs.map (A.val fun _ => none) ∧ Fits ks xs := scal_read (fun _ => none) d t ks hk _ _ _ h
end
theorem Fits.int {k : IntKind} {ss : List Sc} {xs : List A} (h : Fits (.int k :: ss) xs) : ∃ n ys, xs = .int k n :: ys ∧ (k.min ≤ n ∧ n ≤ k.max) ∧ Fits ss ys := by
  cases xs with
  | nil => exact h.elim
  | cons x ys =>
    obtain ⟨h1, h2⟩ := h
    cases x <;> simp only [Sc.fits] at h1 <;> try exact h1.elim
    obtain ⟨rfl, h3⟩ := h1
    exact ⟨_, ys, rfl, h3, h2⟩
theorem Fits.bool {ss : List Sc} {xs : List A} (h : Fits (.bool :: ss) xs) : ∃ b ys, xs = .bool b :: ys ∧ Fits ss ys := by
  cases xs with
  | nil => exact h.elim
  | cons x ys =>
    obtain ⟨h1, h2⟩ := h
    cases x <;> simp only [Sc.fits] at h1 <;> try exact h1.elim
    exact ⟨_, ys, rfl, h2⟩
theorem Fits.str {ss : List Sc} {xs : List A} (h : Fits (.str :: ss) xs) : ∃ s ys, xs = .str s :: ys ∧ s.size ≤ maxLen ∧ Fits ss ys := by
  cases xs with
  | nil => exact h.elim
  | cons x ys =>
    obtain ⟨h1, h2⟩ := h
    cases x <;> simp only [Sc.fits] at h1 <;> try exact h1.elim
    exact ⟨_, ys, rfl, h1, h2⟩
theorem Fits.nil {xs : List A} (h : Fits [] xs) : xs = [] := by
  cases xs with
  | nil => rfl
  | cons x ys => exact h.elim
theorem IsSl.get {W : World} {c : Nat} {ks : List Sc} {p : Addr} {len cap : Nat} {G : Nat → List A} (h : IsSl W c ks (.rslc p len cap) len cap G) {i : Nat} (hi : i < len) :
    Fits ks (G i) ∧ ∀ j y, (G i)[j]? = some y → roOf W (p.add (i * c + j)) y := by
  rcases h with ⟨h, _⟩ | ⟨q, e, hl, hm, hall⟩
  · cases h
  · injection e with e
    subst e
    obtain ⟨h1, _, h3⟩ := hall i (by omega)
    exact ⟨h1, h3⟩
end Go.Eng
