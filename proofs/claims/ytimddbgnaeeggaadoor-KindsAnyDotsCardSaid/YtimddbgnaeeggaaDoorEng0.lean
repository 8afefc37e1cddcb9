/- The engine, parts 0. -/
import Derived.Orders
import Derived.Tactics
/- The engine, part 0: values with local block numbers, what a local heap says of a world. -/
set_option linter.unusedVariables false
namespace Go.Eng

/-- Values of one cell; 'id' is a local block number. -/
inductive A where
  | bool (b : Bool)
  | int (k : IntKind) (n : Int)
  | flt (k : FloatKind) (b : Nat)
  | cpx (k : FloatKind) (re im : Nat)
  | str (s : ByteArray)
  | ptr (id off : Nat)
  | nilp
  | slc (id off len cap : Nat)
  | nils
  | rptr (p : Addr)
  | rslc (p : Addr) (len cap : Nat)
  | clo (f : FuncId) (caps : List (Nat × Nat))
  | nilf
  | nili
  | ifc (t : TypeId) (x : A)
  | nilm
  | nilc

/-- Where the local blocks lie; a block that lies nowhere is an empty row (of a nil slice). -/
abbrev Num := Nat → Option Nat
def adr (β : Num) (i o : Nat) : Option Addr := match β i with
  | some b => some ⟨b, o, none⟩
  | none => none
def A.val (β : Num) : A → Value
  | .bool b => .bool b
  | .int k n => .int k n
  | .flt k b => .float k b
  | .cpx k r i => .complex k r i
  | .str s => .string s
  | .ptr i o => .pointer (adr β i o)
  | .nilp => .pointer none
  | .slc i o l c => .slice (adr β i o) l c
  | .nils => .slice none 0 0
  | .rptr p => .pointer (some p)
  | .rslc p l c => .slice (some p) l c
  | .clo f caps => .func (.func f) #[] (caps.map fun (q : Nat × Nat) => Value.pointer (adr β q.1 q.2)).toArray
  | .nilf => .nilFunc
  | .nili => .nilIface
  | .ifc t x => .iface t (x.val β)
  | .nilm => .map none
  | .nilc => .chan none

/-- All its local numbers are below n. -/
def A.ok (n : Nat) : A → Prop
  | .ptr i _ => i < n
  | .slc i _ _ _ => i < n
  | .clo _ caps => ∀ q ∈ caps, q.1 < n
  | .ifc _ x => x.ok n
  | _ => True

theorem A.val_congr {β β' : Num} {n : Nat} (hb : ∀ i, i < n → β' i = β i) : ∀ {x : A}, x.ok n → x.val β' = x.val β := by
  intro x
  induction x with
  | ptr i o => intro h; simp [A.val, adr, hb i h]
  | slc i o l c => intro h; simp [A.val, adr, hb i h]
  | clo f caps =>
    intro h
    simp only [A.val]
    congr 2
    exact List.map_congr_left fun q hq => by unfold adr; rw [hb q.1 (h q hq)]
  | ifc t x ih => intro h; simp only [A.val]; rw [ih h]
  | _ => intro _; rfl

theorem A.ok_mono {n m : Nat} (h : n ≤ m) : ∀ {x : A}, x.ok n → x.ok m := by
  intro x
  induction x with
  | ptr i o => intro h'; exact Nat.lt_of_lt_of_le h' h
  | slc i o l c => intro h'; exact Nat.lt_of_lt_of_le h' h
  | clo f caps => intro h' q hq; exact Nat.lt_of_lt_of_le (h' q hq) h
  | ifc t x ih => intro h'; exact ih h'
  | _ => intro _; trivial

/-- What lies nowhere has no room; nothing points to it. -/
def A.gh (β : Num) : A → Prop
  | .ptr i _ => β i ≠ none
  | .slc i _ l k => β i = none → l = 0 ∧ k = 0
  | .clo _ caps => ∀ q ∈ caps, β q.1 ≠ none
  | .ifc _ x => x.gh β
  | _ => True
theorem A.gh_congr {β β' : Num} {n : Nat} (hb : ∀ i, i < n → β' i = β i) : ∀ {x : A}, x.ok n → x.gh β → x.gh β' := by
  intro x
  induction x with
  | ptr i o => intro h h'; simp only [A.gh] at *; rw [hb i h]; exact h'
  | slc i o l c => intro h h'; simp only [A.gh] at *; rw [hb i h]; exact h'
  | clo f caps => intro h h' q hq; rw [hb q.1 (h q hq)]; exact h' q hq
  | ifc t x ih => intro h h'; exact ih h h'
  | _ => intro _ _; trivial
theorem A.gh_of0 {β : Num} : ∀ {x : A}, x.ok 0 → x.gh β := by
  intro x
  induction x with
  | ptr i o => intro h; exact absurd h (Nat.not_lt_zero _)
  | slc i o l c => intro h; exact absurd h (Nat.not_lt_zero _)
  | clo f caps => intro h q hq; exact absurd (h q hq) (Nat.not_lt_zero _)
  | ifc t x ih => intro h; exact ih h
  | _ => intro _; trivial
@[reducible] def A.fit (β : Num) (n : Nat) (x : A) : Prop := x.ok n ∧ x.gh β
theorem A.fit_of0 {β : Num} {n : Nat} {x : A} (h : x.ok 0) : x.fit β n := ⟨A.ok_mono (Nat.zero_le _) h, A.gh_of0 h⟩
theorem A.fit_move {β β' : Num} {n m : Nat} (hb : ∀ i, i < n → β' i = β i) (hn : n ≤ m) {x : A} (h : x.fit β n) : x.fit β' m := ⟨A.ok_mono hn h.1, A.gh_congr hb h.1 h.2⟩
theorem A.val_cells (β : Num) (x : A) : (x.val β).cells = #[x.val β] := by cases x <;> rfl
theorem A.val_one (β : Num) (x : A) : (x.val β).oneCell' = true := by cases x <;> rfl

inductive E where
  | a (x : A)
  | g (cs : List A)
def E.val (β : Num) : E → Value
  | .a x => x.val β
  | .g cs => .agg (cs.map (A.val β)).toArray
def E.ok (n : Nat) : E → Prop
  | .a x => x.ok n
  | .g cs => ∀ x ∈ cs, x.ok n
inductive V where
  | a (x : A)
  | g (cs : List A)
  | t (xs : List E)
def V.val (β : Num) : V → Value
  | .a x => x.val β
  | .g cs => .agg (cs.map (A.val β)).toArray
  | .t xs => .tuple (xs.map (E.val β)).toArray
def V.ok (n : Nat) : V → Prop
  | .a x => x.ok n
  | .g cs => ∀ x ∈ cs, x.ok n
  | .t xs => ∀ x ∈ xs, x.ok n
def V.cells? : V → Option (List A)
  | .a x => some [x]
  | .g cs => some cs
  | .t _ => none
def E.toV : E → V
  | .a x => .a x
  | .g cs => .g cs
def V.toE : V → Option E
  | .a x => some (.a x)
  | .g cs => some (.g cs)
  | .t _ => none

theorem map_val_congr {β β' : Num} {n : Nat} (hb : ∀ i, i < n → β' i = β i) {cs : List A} (h : ∀ x ∈ cs, x.ok n) :
    cs.map (A.val β') = cs.map (A.val β) := List.map_congr_left fun x hx => A.val_congr hb (h x hx)
theorem E.val_congr {β β' : Num} {n : Nat} (hb : ∀ i, i < n → β' i = β i) {x : E} (h : x.ok n) : x.val β' = x.val β := by
  cases x with
  | a x => exact A.val_congr hb h
  | g cs => simp only [E.val]; rw [map_val_congr hb h]
theorem V.val_congr {β β' : Num} {n : Nat} (hb : ∀ i, i < n → β' i = β i) {x : V} (h : x.ok n) : x.val β' = x.val β := by
  cases x with
  | a x => exact A.val_congr hb h
  | g cs => simp only [V.val]; rw [map_val_congr hb h]
  | t xs => simp only [V.val]; rw [List.map_congr_left fun x hx => E.val_congr hb (h x hx)]
theorem E.ok_mono {n m : Nat} (h : n ≤ m) {x : E} (hx : x.ok n) : x.ok m := by
  cases x with
  | a x => exact A.ok_mono h hx
  | g cs => exact fun y hy => A.ok_mono h (hx y hy)
theorem V.ok_mono {n m : Nat} (h : n ≤ m) {x : V} (hx : x.ok n) : x.ok m := by
  cases x with
  | a x => exact A.ok_mono h hx
  | g cs => exact fun y hy => A.ok_mono h (hx y hy)
  | t xs => exact fun y hy => E.ok_mono h (hx y hy)
theorem V.val_cells {β : Num} {v : V} {cs : List A} (h : v.cells? = some cs) : (v.val β).cells = (cs.map (A.val β)).toArray := by
  cases v with
  | a x => simp only [V.cells?, Option.some.injEq] at h; subst h; simp [V.val, A.val_cells]
  | g cs => simp only [V.cells?, Option.some.injEq] at h; subst h; rfl
  | t xs => cases h
theorem V.cells_ok {n : Nat} {v : V} {cs : List A} (h : v.cells? = some cs) (hv : v.ok n) : ∀ x ∈ cs, x.ok n := by
  cases v with
  | a x => simp only [V.cells?, Option.some.injEq] at h; subst h; intro y hy; simp at hy; subst hy; exact hv
  | g cs => simp only [V.cells?, Option.some.injEq] at h; subst h; exact hv
  | t xs => cases h
theorem E.toV_val (β : Num) (x : E) : x.toV.val β = x.val β := by cases x <;> rfl
theorem E.toV_ok {n : Nat} {x : E} (h : x.ok n) : x.toV.ok n := by cases x <;> exact h
theorem V.toE_val {β : Num} {v : V} {x : E} (h : v.toE = some x) : x.val β = v.val β := by
  cases v <;> simp only [V.toE, Option.some.injEq, reduceCtorEq] at h <;> subst h <;> rfl
theorem V.toE_ok {n : Nat} {v : V} {x : E} (h : v.toE = some x) (hv : v.ok n) : x.ok n := by
  cases v <;> simp only [V.toE, Option.some.injEq, reduceCtorEq] at h <;> subst h <;> exact hv

def E.gh (β : Num) : E → Prop
  | .a x => x.gh β
  | .g cs => ∀ x ∈ cs, x.gh β
def V.gh (β : Num) : V → Prop
  | .a x => x.gh β
  | .g cs => ∀ x ∈ cs, x.gh β
  | .t xs => ∀ x ∈ xs, x.gh β
@[reducible] def E.fit (β : Num) (n : Nat) (x : E) : Prop := x.ok n ∧ x.gh β
@[reducible] def V.fit (β : Num) (n : Nat) (x : V) : Prop := x.ok n ∧ x.gh β
theorem E.gh_congr {β β' : Num} {n : Nat} (hb : ∀ i, i < n → β' i = β i) {x : E} (h : x.ok n) (h' : x.gh β) : x.gh β' := by
  cases x with
  | a x => exact A.gh_congr hb h h'
  | g cs => exact fun y hy => A.gh_congr hb (h y hy) (h' y hy)
theorem V.gh_congr {β β' : Num} {n : Nat} (hb : ∀ i, i < n → β' i = β i) {x : V} (h : x.ok n) (h' : x.gh β) : x.gh β' := by
  cases x with
  | a x => exact A.gh_congr hb h h'
  | g cs => exact fun y hy => A.gh_congr hb (h y hy) (h' y hy)
  | t xs => exact fun y hy => E.gh_congr hb (h y hy) (h' y hy)
theorem V.gh_of0 {β : Num} {x : V} (h : x.ok 0) : x.gh β := by
  cases x with
  | a x => exact A.gh_of0 h
  | g cs => exact fun y hy => A.gh_of0 (h y hy)
  | t xs =>
    intro y hy
    have := h y hy
    cases y with
    | a x => exact A.gh_of0 this
    | g cs => exact fun z hz => A.gh_of0 (this z hz)
theorem V.fit_of0 {β : Num} {n : Nat} {x : V} (h : x.ok 0) : x.fit β n := ⟨V.ok_mono (Nat.zero_le _) h, V.gh_of0 h⟩
theorem V.fit_move {β β' : Num} {n m : Nat} (hb : ∀ i, i < n → β' i = β i) (hn : n ≤ m) {x : V} (h : x.fit β n) : x.fit β' m := ⟨V.ok_mono hn h.1, V.gh_congr hb h.1 h.2⟩
theorem E.toV_fit {β : Num} {n : Nat} {x : E} (h : x.fit β n) : x.toV.fit β n := by cases x <;> exact h
theorem V.toE_fit {β : Num} {n : Nat} {v : V} {x : E} (h : v.toE = some x) (hv : v.fit β n) : x.fit β n := by
  cases v <;> simp only [V.toE, Option.some.injEq, reduceCtorEq] at h <;> subst h <;> exact hv
theorem V.cells_fit {β : Num} {n : Nat} {v : V} {cs : List A} (h : v.cells? = some cs) (hv : v.fit β n) : ∀ x ∈ cs, x.fit β n := by
  cases v with
  | a x => simp only [V.cells?, Option.some.injEq] at h; subst h; intro y hy; simp at hy; subst hy; exact hv
  | g cs => simp only [V.cells?, Option.some.injEq] at h; subst h; exact fun x hx => ⟨hv.1 x hx, hv.2 x hx⟩
  | t xs => cases h
theorem V.fit_g {β : Num} {n : Nat} {cs : List A} (h : ∀ x ∈ cs, x.fit β n) : (V.g cs).fit β n := ⟨fun x hx => (h x hx).1, fun x hx => (h x hx).2⟩
theorem V.fit_t {β : Num} {n : Nat} {xs : List E} (h : ∀ x ∈ xs, x.fit β n) : (V.t xs).fit β n := ⟨fun x hx => (h x hx).1, fun x hx => (h x hx).2⟩

/-- Objects of the local heap. -/
inductive Ob where
  | cells (cs : List A) (ty : TypeId) (mark : Bool)
  | iter (s : ByteArray) (pos : Nat)
abbrev Frm := List (Nat × V)
abbrev Hp := List Ob
def fz (mark : Bool) (n : Nat) : Nat × Nat := if mark then (n, n + 1) else (0, 0)
def Ob.obj (β : Num) : Ob → Obj
  | .cells cs ty mark => .cells (cs.map (A.val β)).toArray ty (fz mark cs.length)
  | .iter s pos => .stringIter s pos
def Ob.ok (n : Nat) : Ob → Prop
  | .cells cs _ _ => ∀ x ∈ cs, x.ok n
  | .iter _ _ => True
theorem Ob.obj_congr {β β' : Num} {n : Nat} (hb : ∀ i, i < n → β' i = β i) {o : Ob} (h : o.ok n) : o.obj β' = o.obj β := by
  cases o with
  | cells cs ty mk => simp only [Ob.obj]; rw [map_val_congr hb h]
  | iter s p => rfl
def Ob.gh (β : Num) : Ob → Prop
  | .cells cs _ _ => ∀ x ∈ cs, x.gh β
  | .iter _ _ => True
@[reducible] def Ob.fit (β : Num) (n : Nat) (o : Ob) : Prop := o.ok n ∧ o.gh β
theorem Ob.gh_congr {β β' : Num} {n : Nat} (hb : ∀ i, i < n → β' i = β i) {o : Ob} (h : o.ok n) (h' : o.gh β) : o.gh β' := by
  cases o with
  | cells cs ty mk => exact fun x hx => A.gh_congr hb (h x hx) (h' x hx)
  | iter s p => trivial
theorem Ob.fit_cells {β : Num} {n : Nat} {cs : List A} {ty : TypeId} {mk : Bool} (h : ∀ x ∈ cs, x.fit β n) : (Ob.cells cs ty mk).fit β n := ⟨fun x hx => (h x hx).1, fun x hx => (h x hx).2⟩
theorem Ob.cells_fit {β : Num} {n : Nat} {cs : List A} {ty : TypeId} {mk : Bool} (h : (Ob.cells cs ty mk).fit β n) : ∀ x ∈ cs, x.fit β n := fun x hx => ⟨h.1 x hx, h.2 x hx⟩
/-- It has no cells. -/
def Ob.bare : Ob → Prop
  | .cells cs _ _ => cs = []
  | .iter _ _ => False
theorem Ob.ok_mono {n m : Nat} (h : n ≤ m) {o : Ob} (ho : o.ok n) : o.ok m := by
  cases o with
  | cells cs ty mk => exact fun x hx => A.ok_mono h (ho x hx)
  | iter s p => trivial
theorem Ob.fit_move {β β' : Num} {n m : Nat} (hb : ∀ i, i < n → β' i = β i) (hn : n ≤ m) {x : Ob} (h : x.fit β n) : x.fit β' m := ⟨Ob.ok_mono hn h.1, Ob.gh_congr hb h.1 h.2⟩

/-- What the world outside of the local heap is asked to keep. -/
structure Fr (w0 : World) (β0 : Num) (n0 : Nat) (w : World) : Prop where
  os : w.os = w0.os
  tape : w.tape = w0.tape
  output : w.output = w0.output
  size : w0.heap.size ≤ w.heap.size
  keep : ∀ k, k < w0.heap.size → (∀ i, i < n0 → β0 i ≠ some k) → w.heap[k]? = w0.heap[k]?
theorem Fr.refl (w : World) (β : Num) (n : Nat) : Fr w β n w := ⟨rfl, rfl, rfl, Nat.le_refl _, fun _ _ _ => rfl⟩

/-- Read-only memory outside: facts on its cells, at the beginning of the call. -/
structure RoOK (ro : Addr → A → Prop) (β0 : Num) (n0 : Nat) (w0 : World) : Prop where
  spot : ∀ p x, ro p x → p.spot = none
  ext : ∀ p x, ro p x → x.ok 0
  cell : ∀ p x, ro p x → w0.cell? p = some (x.val β0)
  out : ∀ p x, ro p x → ∀ i, i < n0 → β0 i ≠ some p.block

structure Ctx where
  P : Program
  ro : Addr → A → Prop
  n0 : Nat
  β0 : Num
  w0 : World
  nt : Nat

/-- The world is as the local heap says. -/
structure WSat (c : Ctx) (β : Num) (H : Hp) (w : World) : Prop where
  inj : ∀ i j b, i < H.length → j < H.length → β i = some b → β j = some b → i = j
  blk : ∀ (i b : Nat) (o : Ob), H[i]? = some o → β i = some b → w.heap[b]? = some (o.obj β)
  bare : ∀ (i : Nat) (o : Ob), H[i]? = some o → β i = none → o.bare
  ok : ∀ (i : Nat) (o : Ob), H[i]? = some o → o.fit β H.length
  base : ∀ i, i < c.n0 → β i = c.β0 i
  n0 : c.n0 ≤ H.length
  fr : Fr c.w0 c.β0 c.n0 w
  new : ∀ i b, c.n0 ≤ i → i < H.length → β i = some b → c.w0.heap.size ≤ b
  ro : RoOK c.ro c.β0 c.n0 c.w0

def look : Frm → Nat → Option V
  | [], _ => none
  | (i, v) :: l, j => match i == j with
    | true => some v
    | false => look l j

/-- The frame is as the list of slots says. -/
structure FSat (c : Ctx) (β : Num) (F : Frm) (H : Hp) (a : Act) : Prop where
  slot : ∀ i v, look F i = some v → a.tmps[i]? = some (v.val β)
  ok : ∀ i v, look F i = some v → v.fit β H.length
  size : a.tmps.size = c.nt
  defers : a.defers = []

/-- How the world goes on. -/
structure Mv (c : Ctx) (β : Num) (H : Hp) (w : World) (β' : Num) (H' : Hp) (w' : World) : Prop where
  sat : WSat c β' H' w'
  agree : ∀ i, i < H.length → β' i = β i
  len : H.length ≤ H'.length
  fr : Fr w β H.length w'
  new : ∀ i b, H.length ≤ i → i < H'.length → β' i = some b → w.heap.size ≤ b
/-- The world has grown, and nothing that was there is another. -/
structure Grows (w w' : World) : Prop where
  os : w'.os = w.os
  tape : w'.tape = w.tape
  output : w'.output = w.output
  size : w.heap.size ≤ w'.heap.size
  keep : ∀ k, k < w.heap.size → w'.heap[k]? = w.heap[k]?
theorem Grows.refl (w : World) : Grows w w := ⟨rfl, rfl, rfl, Nat.le_refl _, fun _ _ => rfl⟩
theorem Grows.trans {a b c : World} (h : Grows a b) (k : Grows b c) : Grows a c :=
  ⟨k.os.trans h.os, k.tape.trans h.tape, k.output.trans h.output, Nat.le_trans h.size k.size, fun i hi => (k.keep i (Nat.lt_of_lt_of_le hi h.size)).trans (h.keep i hi)⟩

def put (d : Option Nat) (v : V) (F : Frm) : Frm := match d with
  | some d => (d, v) :: F
  | none => F

section basics
variable {c : Ctx} {β β' : Num} {F : Frm} {H H' : Hp} {a : Act} {w w' : World}

theorem WSat.lt (h : WSat c β H w) {i b : Nat} (hi : i < H.length) (e : β i = some b) : b < w.heap.size := by
  have hb := h.blk i b H[i] (by simp [hi]) e
  rcases Nat.lt_or_ge b w.heap.size with h' | h'
  · exact h'
  · simp [Array.getElem?_eq_none h'] at hb
theorem Mv.refl (h : WSat c β H w) : Mv c β H w β H w := ⟨h, fun _ _ => rfl, Nat.le_refl _, Fr.refl _ _ _, fun i b h1 h2 => absurd h2 (Nat.not_lt.2 h1)⟩

theorem FSat.put (h : FSat c β F H a) (hg : Mv c β H w β' H' w') {d : Option Nat} {v : V} (hd : ∀ i, d = some i → i < c.nt) (hv : v.fit β' H'.length) :
    FSat c β' (put d v F) H' (a.put d (v.val β')) := by
  have old : ∀ i u, look F i = some u → u.val β' = u.val β := fun i u hu => V.val_congr hg.agree (h.ok i u hu).1
  cases d with
  | none =>
    exact ⟨fun i u hu => by rw [old i u hu]; exact h.slot i u hu, fun i u hu => V.fit_move hg.agree hg.len (h.ok i u hu), h.size, h.defers⟩
  | some d =>
    have hlt : d < a.tmps.size := by rw [h.size]; exact hd d rfl
    refine ⟨fun i u hu => ?_, fun i u hu => ?_, by simp [Act.put, h.size], h.defers⟩
    · simp only [Eng.put, look] at hu
      by_cases e : d = i
      · subst e
        simp only [beq_self_eq_true, Option.some.injEq] at hu
        subst hu
        simp [Act.put, hlt]
      · have : (d == i) = false := by simpa using e
        simp only [this] at hu
        rw [old i u hu]
        simp [Act.put, e, h.slot i u hu]
    · simp only [Eng.put, look] at hu
      by_cases e : d = i
      · subst e
        simp only [beq_self_eq_true, Option.some.injEq] at hu
        subst hu
        exact hv
      · have : (d == i) = false := by simpa using e
        simp only [this] at hu
        exact V.fit_move hg.agree hg.len (h.ok i u hu)

/-- A block that has a cell lies somewhere. -/
theorem WSat.num (h : WSat c β H w) {i : Nat} {cs : List A} {ty : TypeId} {mk : Bool} (hb : H[i]? = some (.cells cs ty mk)) (hc : cs ≠ []) : ∃ b, β i = some b := by
  cases e : β i with
  | some b => exact ⟨b, rfl⟩
  | none => exact absurd (h.bare i _ hb e) hc
/-- Cells of a local block. -/
theorem WSat.cell (h : WSat c β H w) {i b : Nat} {cs : List A} {ty : TypeId} {mk : Bool} (hb : H[i]? = some (.cells cs ty mk)) (e : β i = some b) {off : Nat} {x : A}
    (hx : cs[off]? = some x) : w.cell? ⟨b, off, none⟩ = some (x.val β) := by
  have := h.blk i b _ hb e
  simp [World.cell?, this, Ob.obj, hx]
theorem WSat.free (h : WSat c β H w) {i b : Nat} {cs : List A} {ty : TypeId} {mk : Bool} (hb : H[i]? = some (.cells cs ty mk)) (e : β i = some b) {off : Nat}
    (hx : off < cs.length) : w.frozen? ⟨b, off, none⟩ = false := by
  have := h.blk i b _ hb e
  simp only [World.frozen?, this, Ob.obj, fz]
  cases mk <;> simp
  omega
theorem WSat.lenOf (h : WSat c β H w) {i : Nat} {o : Ob} (hb : H[i]? = some o) : i < H.length := by
  rcases Nat.lt_or_ge i H.length with h' | h'
  · exact h'
  · simp [List.getElem?_eq_none h'] at hb
/-- Read-only cells. -/
theorem WSat.rcell (h : WSat c β H w) {p : Addr} {x : A} (hx : c.ro p x) : w.cell? p = some (x.val β) := by
  have h0 := h.ro.cell p x hx
  have hlt : p.block < c.w0.heap.size := World.block_lt_of_cell? _ _ h0
  have hk := h.fr.keep p.block hlt (h.ro.out p x hx)
  have : w.cell? p = c.w0.cell? p := by simp only [World.cell?, hk]
  rw [this, h0]
  congr 1
  exact (A.val_congr (n := 0) (fun i hi => absurd hi (Nat.not_lt_zero i)) (h.ro.ext p x hx)).symm
theorem WSat.rout (h : WSat c β H w) {p : Addr} {x : A} (hx : c.ro p x) {i : Nat} (hi : i < H.length) : β i ≠ some p.block := by
  have h0 := h.ro.cell p x hx
  have hlt : p.block < c.w0.heap.size := World.block_lt_of_cell? _ _ h0
  rcases Nat.lt_or_ge i c.n0 with h' | h'
  · rw [h.base i h']; exact h.ro.out p x hx i h'
  · intro e; have := h.new i _ h' hi e; omega

/-- A new block. -/
theorem WSat.alloc (h : WSat c β H w) (o : Ob) (ho : o.fit β H.length) :
    Mv c β H w (fun i => if i = H.length then some w.heap.size else β i) (H ++ [o]) (w.alloc (o.obj β)) := by
  have hag : ∀ i, i < H.length → (if i = H.length then some w.heap.size else β i) = β i := fun i hi => if_neg (Nat.ne_of_lt hi)
  have hob : ∀ q : Ob, q.ok H.length → q.obj (fun i => if i = H.length then some w.heap.size else β i) = q.obj β := fun q hq => Ob.obj_congr hag hq
  have hfr : Fr w β H.length (w.alloc (o.obj β)) := ⟨rfl, rfl, rfl, by simp, fun k hk _ => by
    show (w.heap.push (o.obj β))[k]? = _
    rw [Array.getElem?_push, if_neg (Nat.ne_of_lt hk)]⟩
  refine ⟨⟨?_, ?_, ?_, ?_, ?_, ?_, ?_, ?_, h.ro⟩, hag, by simp, hfr, fun i b h1 h2 e => by
    simp only [List.length_append, List.length_cons, List.length_nil] at h2
    have : i = H.length := by omega
    simp only [this, if_true, Option.some.injEq] at e
    omega⟩
  · intro i j b hi hj e e'
    simp only [List.length_append, List.length_cons, List.length_nil] at hi hj
    by_cases hi' : i = H.length <;> by_cases hj' : j = H.length <;> simp only [hi', hj', if_true, if_false, Option.some.injEq] at e e' ⊢
    · have := h.lt (i := j) (by omega) e'; omega
    · have := h.lt (i := i) (by omega) e; omega
    · exact h.inj i j b (by omega) (by omega) e e'
  · intro i b q hq e
    by_cases hi : i < H.length
    · rw [List.getElem?_append_left hi] at hq
      have hq' := h.ok i q hq
      rw [hag i hi] at e
      rw [hob q hq'.1]
      have := h.blk i b q hq e
      have hlt := h.lt hi e
      simp only [World.alloc]
      rw [Array.getElem?_push, if_neg (Nat.ne_of_lt hlt)]
      exact this
    · have hi' : i = H.length := by
        rcases Nat.lt_or_ge i (H.length + 1) with h' | h'
        · omega
        · rw [List.getElem?_eq_none (by simpa using h')] at hq; cases hq
      subst hi'
      simp only [List.getElem?_append_right (Nat.le_refl _), Nat.sub_self, List.getElem?_cons_zero, Option.some.injEq] at hq
      subst hq
      simp only [if_true, Option.some.injEq] at e
      subst e
      rw [hob o ho.1]
      show (w.heap.push (o.obj β))[w.heap.size]? = _
      simp
  · intro i q hq e
    by_cases hi : i < H.length
    · rw [List.getElem?_append_left hi] at hq
      rw [hag i hi] at e
      exact h.bare i q hq e
    · have hi' : i = H.length := by
        rcases Nat.lt_or_ge i (H.length + 1) with h' | h'
        · omega
        · rw [List.getElem?_eq_none (by simpa using h')] at hq; cases hq
      subst hi'
      simp at e
  · intro i q hq
    by_cases hi : i < H.length
    · rw [List.getElem?_append_left hi] at hq
      exact Ob.fit_move hag (by simp) (h.ok i q hq)
    · have hi' : i = H.length := by
        rcases Nat.lt_or_ge i (H.length + 1) with h' | h'
        · omega
        · rw [List.getElem?_eq_none (by simpa using h')] at hq; cases hq
      subst hi'
      simp only [List.getElem?_append_right (Nat.le_refl _), Nat.sub_self, List.getElem?_cons_zero, Option.some.injEq] at hq
      subst hq
      exact Ob.fit_move hag (by simp) ho
  · intro i hi
    show (if i = H.length then some w.heap.size else β i) = _
    rw [if_neg (by have := h.n0; omega)]
    exact h.base i hi
  · have := h.n0; simp; omega
  · refine ⟨h.fr.os, h.fr.tape, h.fr.output, by simp; exact Nat.le_succ_of_le h.fr.size, fun k hk hn => ?_⟩
    have := h.fr.keep k hk hn
    have hs := h.fr.size
    simp only [World.alloc]
    rw [Array.getElem?_push, if_neg (by omega)]
    exact this
  · intro i b hi hl e
    have e' : (if i = H.length then some w.heap.size else β i) = some b := e
    by_cases q : i = H.length
    · rw [if_pos q] at e'; injection e' with e'; rw [← e']; exact h.fr.size
    · rw [if_neg q] at e'; simp only [List.length_append, List.length_cons, List.length_nil] at hl; exact h.new i b hi (by omega) e'

/-- A block becomes another one. -/
theorem WSat.setBlk (h : WSat c β H w) {i : Nat} (hi : i < H.length) (o : Ob) (ho : o.fit β H.length) (hbr : β i = none → o.bare) {w' : World}
    (hw : w'.os = w.os ∧ w'.tape = w.tape ∧ w'.output = w.output) (hs : w'.heap.size = w.heap.size)
    (hb : ∀ b, β i = some b → w'.heap[b]? = some (o.obj β)) (hk : ∀ k, β i ≠ some k → w'.heap[k]? = w.heap[k]?) : Mv c β H w β (H.set i o) w' := by
  have hfr : Fr w β H.length w' := ⟨hw.1, hw.2.1, hw.2.2, by rw [hs]; exact Nat.le_refl _, fun k _ hn => hk k (hn i hi)⟩
  refine ⟨⟨?_, ?_, ?_, ?_, ?_, ?_, ?_, ?_, h.ro⟩, fun _ _ => rfl, by simp, hfr, fun j b h1 h2 => by simp at h2; omega⟩
  · intro j k b hj hk' e e'
    simp only [List.length_set] at hj hk'
    exact h.inj j k b hj hk' e e'
  · intro j b q hq eb
    by_cases e : i = j
    · subst e
      simp only [List.getElem?_set_self hi, Option.some.injEq] at hq
      subst hq
      exact hb b eb
    · rw [List.getElem?_set_ne e] at hq
      have hj := h.lenOf hq
      rw [hk b (fun e' => e (h.inj i j b hi hj e' eb))]
      exact h.blk j b q hq eb
  · intro j q hq eb
    by_cases e : i = j
    · subst e
      simp only [List.getElem?_set_self hi, Option.some.injEq] at hq
      subst hq
      exact hbr eb
    · rw [List.getElem?_set_ne e] at hq
      exact h.bare j q hq eb
  · intro j q hq
    simp only [List.length_set]
    by_cases e : i = j
    · subst e
      simp only [List.getElem?_set_self hi, Option.some.injEq] at hq
      subst hq
      exact ho
    · rw [List.getElem?_set_ne e] at hq
      exact h.ok j q hq
  · exact h.base
  · simpa using h.n0
  · refine ⟨hw.1.trans h.fr.os, hw.2.1.trans h.fr.tape, hw.2.2.trans h.fr.output, by rw [hs]; exact h.fr.size, fun k hk' hn => ?_⟩
    rw [hk k ?_]
    · exact h.fr.keep k hk' hn
    · intro e
      rcases Nat.lt_or_ge i c.n0 with h' | h'
      · exact hn i h' (by rw [← h.base i h']; exact e)
      · have := h.new i k h' hi e; omega
  · intro j b hj hl
    simp only [List.length_set] at hl
    exact h.new j b hj hl
theorem WSat.drew (h : WSat c β H w) : WSat c β H w.drew :=
  ⟨h.inj, h.blk, h.bare, h.ok, h.base, h.n0, ⟨h.fr.os, h.fr.tape, h.fr.output, h.fr.size, h.fr.keep⟩, h.new, h.ro⟩
theorem WSat.tick (h : WSat c β H w) (d : Nat) : WSat c β H { w with drawn := d } :=
  ⟨h.inj, h.blk, h.bare, h.ok, h.base, h.n0, ⟨h.fr.os, h.fr.tape, h.fr.output, h.fr.size, h.fr.keep⟩, h.new, h.ro⟩
theorem Mv.tick (h : Mv c β H w β' H' w') (d : Nat) : Mv c β H w β' H' { w' with drawn := d } :=
  ⟨h.sat.tick d, h.agree, h.len, ⟨h.fr.os, h.fr.tape, h.fr.output, h.fr.size, h.fr.keep⟩, h.new⟩
theorem WSat.grow (h : WSat c β H w) (g : Grows w w') : WSat c β H w' := by
  refine ⟨h.inj, fun i b o ho e => ?_, h.bare, h.ok, h.base, h.n0, ?_, h.new, h.ro⟩
  · have hi := h.lenOf ho
    rw [g.keep _ (h.lt hi e)]
    exact h.blk i b o ho e
  · exact ⟨g.os.trans h.fr.os, g.tape.trans h.fr.tape, g.output.trans h.fr.output, Nat.le_trans h.fr.size g.size, fun k hk hn => (g.keep k (Nat.lt_of_lt_of_le hk h.fr.size)).trans (h.fr.keep k hk hn)⟩
/-- Where the local heap has but grown, the world has. -/
theorem Mv.grows (h : Mv c β H w β' H' w') (hw : WSat c β H w) (hp : H <+: H') : Grows w w' := by
  refine ⟨h.fr.os, h.fr.tape, h.fr.output, h.fr.size, fun k hk => ?_⟩
  by_cases e : ∃ i, i < H.length ∧ β i = some k
  · obtain ⟨i, hi, hik⟩ := e
    have ho : H[i]? = some H[i] := by simp [hi]
    obtain ⟨t, ht⟩ := hp
    have ho' : H'[i]? = some H[i] := by rw [← ht, List.getElem?_append_left hi]; exact ho
    have h1 := h.sat.blk i k _ ho' (by rw [h.agree i hi]; exact hik)
    rw [h1, hw.blk i k _ ho hik, Ob.obj_congr h.agree (hw.ok i _ ho).1]
  · exact h.fr.keep k hk fun i hi he => e ⟨i, hi, he⟩
theorem Mv.trans {β₁ β₂ : Num} {H₁ H₂ : Hp} {w₁ w₂ : World} (h : Mv c β H w β₁ H₁ w₁) (k : Mv c β₁ H₁ w₁ β₂ H₂ w₂) : Mv c β H w β₂ H₂ w₂ := by
  refine ⟨k.sat, fun i hi => (k.agree i (Nat.lt_of_lt_of_le hi h.len)).trans (h.agree i hi), Nat.le_trans h.len k.len, ?_, fun i b h1 h2 e => ?_⟩
  · refine ⟨k.fr.os.trans h.fr.os, k.fr.tape.trans h.fr.tape, k.fr.output.trans h.fr.output, Nat.le_trans h.fr.size k.fr.size, fun j hj hn => ?_⟩
    refine (k.fr.keep j (Nat.lt_of_lt_of_le hj h.fr.size) fun i hi e => ?_).trans (h.fr.keep j hj hn)
    rcases Nat.lt_or_ge i H.length with h' | h'
    · exact hn i h' (by rw [← h.agree i h']; exact e)
    · have := h.new i j h' hi e
      omega
  · rcases Nat.lt_or_ge i H₁.length with h' | h'
    · rw [k.agree i h'] at e; exact h.new i b h1 h' e
    · exact Nat.le_trans h.fr.size (k.new i b h' h2 e)
end basics
end Go.Eng
