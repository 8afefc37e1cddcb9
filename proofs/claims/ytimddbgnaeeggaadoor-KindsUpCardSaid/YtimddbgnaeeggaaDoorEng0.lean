/- The engine, part 0: values with local block numbers, what a local heap says of a world. -/
import Derived.Tactics
import Derived.Orders
set_option linter.unusedVariables false
namespace Go.Eng

/-- Values of one cell; 'id' is a local block number. -/
inductive A where
  | bool (b : Bool)
  | int (k : IntKind) (n : Int)
  | flt (k : FloatKind) (b : Nat)
  | cpx (k : FloatKind) (re im : Nat)
  | str (s : ByteArray)
  | ptr (id off : Nat)
  | nilp
  | slc (id off len cap : Nat)
  | nils
  | rptr (p : Addr)
  | rslc (p : Addr) (len cap : Nat)
  | clo (f : FuncId) (caps : List (Nat × Nat))
  | nilf
  | nili
  | ifc (t : TypeId) (x : A)
  | nilm
  | nilc

def A.val (β : Nat → Nat) : A → Value
  | .bool b => .bool b
  | .int k n => .int k n
  | .flt k b => .float k b
  | .cpx k r i => .complex k r i
  | .str s => .string s
  | .ptr i o => .pointer (some ⟨β i, o, none⟩)
  | .nilp => .pointer none
  | .slc i o l c => .slice (some ⟨β i, o, none⟩) l c
  | .nils => .slice none 0 0
  | .rptr p => .pointer (some p)
  | .rslc p l c => .slice (some p) l c
  | .clo f caps => .func (.func f) #[] (caps.map fun (q : Nat × Nat) => Value.pointer (some ⟨β q.1, q.2, none⟩)).toArray
  | .nilf => .nilFunc
  | .nili => .nilIface
  | .ifc t x => .iface t (x.val β)
  | .nilm => .map none
  | .nilc => .chan none

/-- All its local numbers are below n. -/
def A.ok (n : Nat) : A → Prop
  | .ptr i _ => i < n
  | .slc i _ _ _ => i < n
  | .clo _ caps => ∀ q ∈ caps, q.1 < n
  | .ifc _ x => x.ok n
  | _ => True

theorem A.val_congr {β β' : Nat → Nat} {n : Nat} (hb : ∀ i, i < n → β' i = β i) : ∀ {x : A}, x.ok n → x.val β' = x.val β := by
  intro x
  induction x with
  | ptr i o => intro h; simp [A.val, hb i h]
  | slc i o l c => intro h; simp [A.val, hb i h]
  | clo f caps =>
    intro h
    simp only [A.val]
    congr 2
    exact List.map_congr_left fun q hq => by rw [hb q.1 (h q hq)]
  | ifc t x ih => intro h; simp only [A.val]; rw [ih h]
  | _ => intro _; rfl

theorem A.ok_mono {n m : Nat} (h : n ≤ m) : ∀ {x : A}, x.ok n → x.ok m := by
  intro x
  induction x with
  | ptr i o => intro h'; exact Nat.lt_of_lt_of_le h' h
  | slc i o l c => intro h'; exact Nat.lt_of_lt_of_le h' h
  | clo f caps => intro h' q hq; exact Nat.lt_of_lt_of_le (h' q hq) h
  | ifc t x ih => intro h'; exact ih h'
  | _ => intro _; trivial

theorem A.val_cells (β : Nat → Nat) (x : A) : (x.val β).cells = #[x.val β] := by cases x <;> rfl
theorem A.val_one (β : Nat → Nat) (x : A) : (x.val β).oneCell' = true := by cases x <;> rfl

inductive E where
  | a (x : A)
  | g (cs : List A)
def E.val (β : Nat → Nat) : E → Value
  | .a x => x.val β
  | .g cs => .agg (cs.map (A.val β)).toArray
def E.ok (n : Nat) : E → Prop
  | .a x => x.ok n
  | .g cs => ∀ x ∈ cs, x.ok n
inductive V where
  | a (x : A)
  | g (cs : List A)
  | t (xs : List E)
def V.val (β : Nat → Nat) : V → Value
  | .a x => x.val β
  | .g cs => .agg (cs.map (A.val β)).toArray
  | .t xs => .tuple (xs.map (E.val β)).toArray
def V.ok (n : Nat) : V → Prop
  | .a x => x.ok n
  | .g cs => ∀ x ∈ cs, x.ok n
  | .t xs => ∀ x ∈ xs, x.ok n
def V.cells? : V → Option (List A)
  | .a x => some [x]
  | .g cs => some cs
  | .t _ => none
def E.toV : E → V
  | .a x => .a x
  | .g cs => .g cs
def V.toE : V → Option E
  | .a x => some (.a x)
  | .g cs => some (.g cs)
  | .t _ => none

theorem map_val_congr {β β' : Nat → Nat} {n : Nat} (hb : ∀ i, i < n → β' i = β i) {cs : List A} (h : ∀ x ∈ cs, x.ok n) :
    cs.map (A.val β') = cs.map (A.val β) := List.map_congr_left fun x hx => A.val_congr hb (h x hx)
theorem E.val_congr {β β' : Nat → Nat} {n : Nat} (hb : ∀ i, i < n → β' i = β i) {x : E} (h : x.ok n) : x.val β' = x.val β := by
  cases x with
  | a x => exact A.val_congr hb h
  | g cs => simp only [E.val]; rw [map_val_congr hb h]
theorem V.val_congr {β β' : Nat → Nat} {n : Nat} (hb : ∀ i, i < n → β' i = β i) {x : V} (h : x.ok n) : x.val β' = x.val β := by
  cases x with
  | a x => exact A.val_congr hb h
  | g cs => simp only [V.val]; rw [map_val_congr hb h]
  | t xs => simp only [V.val]; rw [List.map_congr_left fun x hx => E.val_congr hb (h x hx)]
theorem E.ok_mono {n m : Nat} (h : n ≤ m) {x : E} (hx : x.ok n) : x.ok m := by
  cases x with
  | a x => exact A.ok_mono h hx
  | g cs => exact fun y hy => A.ok_mono h (hx y hy)
theorem V.ok_mono {n m : Nat} (h : n ≤ m) {x : V} (hx : x.ok n) : x.ok m := by
  cases x with
  | a x => exact A.ok_mono h hx
  | g cs => exact fun y hy => A.ok_mono h (hx y hy)
  | t xs => exact fun y hy => E.ok_mono h (hx y hy)
theorem V.val_cells {β : Nat → Nat} {v : V} {cs : List A} (h : v.cells? = some cs) : (v.val β).cells = (cs.map (A.val β)).toArray := by
  cases v with
  | a x => simp only [V.cells?, Option.some.injEq] at h; subst h; simp [V.val, A.val_cells]
  | g cs => simp only [V.cells?, Option.some.injEq] at h; subst h; rfl
  | t xs => cases h
theorem V.cells_ok {n : Nat} {v : V} {cs : List A} (h : v.cells? = some cs) (hv : v.ok n) : ∀ x ∈ cs, x.ok n := by
  cases v with
  | a x => simp only [V.cells?, Option.some.injEq] at h; subst h; intro y hy; simp at hy; subst hy; exact hv
  | g cs => simp only [V.cells?, Option.some.injEq] at h; subst h; exact hv
  | t xs => cases h
theorem E.toV_val (β : Nat → Nat) (x : E) : x.toV.val β = x.val β := by cases x <;> rfl
theorem E.toV_ok {n : Nat} {x : E} (h : x.ok n) : x.toV.ok n := by cases x <;> exact h
theorem V.toE_val {β : Nat → Nat} {v : V} {x : E} (h : v.toE = some x) : x.val β = v.val β := by
  cases v <;> simp only [V.toE, Option.some.injEq, reduceCtorEq] at h <;> subst h <;> rfl
theorem V.toE_ok {n : Nat} {v : V} {x : E} (h : v.toE = some x) (hv : v.ok n) : x.ok n := by
  cases v <;> simp only [V.toE, Option.some.injEq, reduceCtorEq] at h <;> subst h <;> exact hv

/-- Objects of the local heap. -/
inductive Ob where
  | cells (cs : List A) (ty : TypeId) (mark : Bool)
  | iter (s : ByteArray) (pos : Nat)
abbrev Frm := List (Nat × V)
abbrev Hp := List Ob
def fz (mark : Bool) (n : Nat) : Nat × Nat := if mark then (n, n + 1) else (0, 0)
def Ob.obj (β : Nat → Nat) : Ob → Obj
  | .cells cs ty mark => .cells (cs.map (A.val β)).toArray ty (fz mark cs.length)
  | .iter s pos => .stringIter s pos
def Ob.ok (n : Nat) : Ob → Prop
  | .cells cs _ _ => ∀ x ∈ cs, x.ok n
  | .iter _ _ => True
theorem Ob.obj_congr {β β' : Nat → Nat} {n : Nat} (hb : ∀ i, i < n → β' i = β i) {o : Ob} (h : o.ok n) : o.obj β' = o.obj β := by
  cases o with
  | cells cs ty mk => simp only [Ob.obj]; rw [map_val_congr hb h]
  | iter s p => rfl
theorem Ob.ok_mono {n m : Nat} (h : n ≤ m) {o : Ob} (ho : o.ok n) : o.ok m := by
  cases o with
  | cells cs ty mk => exact fun x hx => A.ok_mono h (ho x hx)
  | iter s p => trivial

/-- What the world outside of the local heap is asked to keep. -/
structure Fr (w0 : World) (β0 : Nat → Nat) (n0 : Nat) (w : World) : Prop where
  os : w.os = w0.os
  tape : w.tape = w0.tape
  output : w.output = w0.output
  size : w0.heap.size ≤ w.heap.size
  keep : ∀ k, k < w0.heap.size → (∀ i, i < n0 → k ≠ β0 i) → w.heap[k]? = w0.heap[k]?
theorem Fr.refl (w : World) (β : Nat → Nat) (n : Nat) : Fr w β n w := ⟨rfl, rfl, rfl, Nat.le_refl _, fun _ _ _ => rfl⟩

/-- Read-only memory outside: facts on its cells, at the beginning of the call. -/
structure RoOK (ro : Addr → A → Prop) (β0 : Nat → Nat) (n0 : Nat) (w0 : World) : Prop where
  spot : ∀ p x, ro p x → p.spot = none
  ext : ∀ p x, ro p x → x.ok 0
  cell : ∀ p x, ro p x → w0.cell? p = some (x.val β0)
  out : ∀ p x, ro p x → ∀ i, i < n0 → p.block ≠ β0 i

structure Ctx where
  P : Program
  ro : Addr → A → Prop
  n0 : Nat
  β0 : Nat → Nat
  w0 : World
  nt : Nat

/-- The world is as the local heap says. -/
structure WSat (c : Ctx) (β : Nat → Nat) (H : Hp) (w : World) : Prop where
  inj : ∀ i j, i < H.length → j < H.length → β i = β j → i = j
  blk : ∀ (i : Nat) (o : Ob), H[i]? = some o → w.heap[β i]? = some (o.obj β)
  ok : ∀ (i : Nat) (o : Ob), H[i]? = some o → o.ok H.length
  base : ∀ i, i < c.n0 → β i = c.β0 i
  n0 : c.n0 ≤ H.length
  fr : Fr c.w0 c.β0 c.n0 w
  new : ∀ i, c.n0 ≤ i → i < H.length → c.w0.heap.size ≤ β i
  ro : RoOK c.ro c.β0 c.n0 c.w0

def look : Frm → Nat → Option V
  | [], _ => none
  | (i, v) :: l, j => match i == j with
    | true => some v
    | false => look l j

/-- The frame is as the list of slots says. -/
structure FSat (c : Ctx) (β : Nat → Nat) (F : Frm) (H : Hp) (a : Act) : Prop where
  slot : ∀ i v, look F i = some v → a.tmps[i]? = some (v.val β)
  ok : ∀ i v, look F i = some v → v.ok H.length
  size : a.tmps.size = c.nt
  defers : a.defers = []

/-- How the world goes on. -/
structure Mv (c : Ctx) (β : Nat → Nat) (H : Hp) (w : World) (β' : Nat → Nat) (H' : Hp) (w' : World) : Prop where
  sat : WSat c β' H' w'
  agree : ∀ i, i < H.length → β' i = β i
  len : H.length ≤ H'.length
  fr : Fr w β H.length w'
  new : ∀ i, H.length ≤ i → i < H'.length → w.heap.size ≤ β' i
/-- The world has grown, and nothing that was there is another. -/
structure Grows (w w' : World) : Prop where
  os : w'.os = w.os
  tape : w'.tape = w.tape
  output : w'.output = w.output
  size : w.heap.size ≤ w'.heap.size
  keep : ∀ k, k < w.heap.size → w'.heap[k]? = w.heap[k]?
theorem Grows.refl (w : World) : Grows w w := ⟨rfl, rfl, rfl, Nat.le_refl _, fun _ _ => rfl⟩
theorem Grows.trans {a b c : World} (h : Grows a b) (k : Grows b c) : Grows a c :=
  ⟨k.os.trans h.os, k.tape.trans h.tape, k.output.trans h.output, Nat.le_trans h.size k.size, fun i hi => (k.keep i (Nat.lt_of_lt_of_le hi h.size)).trans (h.keep i hi)⟩

def put (d : Option Nat) (v : V) (F : Frm) : Frm := match d with
  | some d => (d, v) :: F
  | none => F

section basics
variable {c : Ctx} {β β' : Nat → Nat} {F : Frm} {H H' : Hp} {a : Act} {w w' : World}

theorem WSat.lt (h : WSat c β H w) {i : Nat} (hi : i < H.length) : β i < w.heap.size := by
  have hb := h.blk i H[i] (by simp [hi])
  rcases Nat.lt_or_ge (β i) w.heap.size with h' | h'
  · exact h'
  · simp [Array.getElem?_eq_none h'] at hb
theorem Mv.refl (h : WSat c β H w) : Mv c β H w β H w := ⟨h, fun _ _ => rfl, Nat.le_refl _, Fr.refl _ _ _, fun i h1 h2 => absurd h2 (Nat.not_lt.2 h1)⟩

theorem FSat.put (h : FSat c β F H a) (hg : Mv c β H w β' H' w') {d : Option Nat} {v : V} (hd : ∀ i, d = some i → i < c.nt) (hv : v.ok H'.length) :
    FSat c β' (put d v F) H' (a.put d (v.val β')) := by
  have old : ∀ i u, look F i = some u → u.val β' = u.val β := fun i u hu => V.val_congr hg.agree (h.ok i u hu)
  cases d with
  | none =>
    exact ⟨fun i u hu => by rw [old i u hu]; exact h.slot i u hu, fun i u hu => V.ok_mono hg.len (h.ok i u hu), h.size, h.defers⟩
  | some d =>
    have hlt : d < a.tmps.size := by rw [h.size]; exact hd d rfl
    refine ⟨fun i u hu => ?_, fun i u hu => ?_, by simp [Act.put, h.size], h.defers⟩
    · simp only [Eng.put, look] at hu
      by_cases e : d = i
      · subst e
        simp only [beq_self_eq_true, Option.some.injEq] at hu
        subst hu
        simp [Act.put, hlt]
      · have : (d == i) = false := by simpa using e
        simp only [this] at hu
        rw [old i u hu]
        simp [Act.put, e, h.slot i u hu]
    · simp only [Eng.put, look] at hu
      by_cases e : d = i
      · subst e
        simp only [beq_self_eq_true, Option.some.injEq] at hu
        subst hu
        exact hv
      · have : (d == i) = false := by simpa using e
        simp only [this] at hu
        exact V.ok_mono hg.len (h.ok i u hu)

/-- Cells of a local block. -/
theorem WSat.cell (h : WSat c β H w) {i : Nat} {cs : List A} {ty : TypeId} {mk : Bool} (hb : H[i]? = some (.cells cs ty mk)) {off : Nat} {x : A}
    (hx : cs[off]? = some x) : w.cell? ⟨β i, off, none⟩ = some (x.val β) := by
  have := h.blk i _ hb
  simp [World.cell?, this, Ob.obj, hx]
theorem WSat.free (h : WSat c β H w) {i : Nat} {cs : List A} {ty : TypeId} {mk : Bool} (hb : H[i]? = some (.cells cs ty mk)) {off : Nat}
    (hx : off < cs.length) : w.frozen? ⟨β i, off, none⟩ = false := by
  have := h.blk i _ hb
  simp only [World.frozen?, this, Ob.obj, fz]
  cases mk <;> simp
  omega
theorem WSat.lenOf (h : WSat c β H w) {i : Nat} {o : Ob} (hb : H[i]? = some o) : i < H.length := by
  rcases Nat.lt_or_ge i H.length with h' | h'
  · exact h'
  · simp [List.getElem?_eq_none h'] at hb
/-- Read-only cells. -/
theorem WSat.rcell (h : WSat c β H w) {p : Addr} {x : A} (hx : c.ro p x) : w.cell? p = some (x.val β) := by
  have h0 := h.ro.cell p x hx
  have hlt : p.block < c.w0.heap.size := World.block_lt_of_cell? _ _ h0
  have hk := h.fr.keep p.block hlt (h.ro.out p x hx)
  have : w.cell? p = c.w0.cell? p := by simp only [World.cell?, hk]
  rw [this, h0]
  congr 1
  exact (A.val_congr (n := 0) (fun i hi => absurd hi (Nat.not_lt_zero i)) (h.ro.ext p x hx)).symm
theorem WSat.rout (h : WSat c β H w) {p : Addr} {x : A} (hx : c.ro p x) {i : Nat} (hi : i < H.length) : p.block ≠ β i := by
  have h0 := h.ro.cell p x hx
  have hlt : p.block < c.w0.heap.size := World.block_lt_of_cell? _ _ h0
  rcases Nat.lt_or_ge i c.n0 with h' | h'
  · rw [h.base i h']; exact h.ro.out p x hx i h'
  · have := h.new i h' hi; omega

/-- A new block. -/
theorem WSat.alloc (h : WSat c β H w) (o : Ob) (ho : o.ok H.length) :
    Mv c β H w (fun i => if i = H.length then w.heap.size else β i) (H ++ [o]) (w.alloc (o.obj β)) := by
  have hag : ∀ i, i < H.length → (if i = H.length then w.heap.size else β i) = β i := fun i hi => if_neg (Nat.ne_of_lt hi)
  have hob : ∀ q : Ob, q.ok H.length → q.obj (fun i => if i = H.length then w.heap.size else β i) = q.obj β := fun q hq => Ob.obj_congr hag hq
  have hfr : Fr w β H.length (w.alloc (o.obj β)) := ⟨rfl, rfl, rfl, by simp, fun k hk _ => by
    show (w.heap.push (o.obj β))[k]? = _
    rw [Array.getElem?_push, if_neg (Nat.ne_of_lt hk)]⟩
  refine ⟨⟨?_, ?_, ?_, ?_, ?_, ?_, ?_, h.ro⟩, hag, by simp, hfr, fun i h1 h2 => by
    simp only [List.length_append, List.length_cons, List.length_nil] at h2
    have : i = H.length := by omega
    simp [this]⟩
  · intro i j hi hj e
    simp only [List.length_append, List.length_cons, List.length_nil] at hi hj
    by_cases hi' : i = H.length <;> by_cases hj' : j = H.length <;> simp only [hi', hj', if_true, if_false] at e ⊢
    · have := h.lt (i := j) (by omega); omega
    · have := h.lt (i := i) (by omega); omega
    · exact h.inj i j (by omega) (by omega) e
  · intro i q hq
    by_cases hi : i < H.length
    · rw [List.getElem?_append_left hi] at hq
      have hq' := h.ok i q hq
      simp only [hag i hi]
      rw [hob q hq']
      have := h.blk i q hq
      have hlt := h.lt hi
      simp only [World.alloc]
      rw [Array.getElem?_push, if_neg (Nat.ne_of_lt hlt)]
      exact this
    · have hi' : i = H.length := by
        rcases Nat.lt_or_ge i (H.length + 1) with h' | h'
        · omega
        · rw [List.getElem?_eq_none (by simpa using h')] at hq; cases hq
      subst hi'
      simp only [List.getElem?_append_right (Nat.le_refl _), Nat.sub_self, List.getElem?_cons_zero, Option.some.injEq] at hq
      subst hq
      simp only [if_true]
      rw [hob o ho]
      show (w.heap.push (o.obj β))[w.heap.size]? = _
      simp
  · intro i q hq
    by_cases hi : i < H.length
    · rw [List.getElem?_append_left hi] at hq
      exact Ob.ok_mono (by simp) (h.ok i q hq)
    · have hi' : i = H.length := by
        rcases Nat.lt_or_ge i (H.length + 1) with h' | h'
        · omega
        · rw [List.getElem?_eq_none (by simpa using h')] at hq; cases hq
      subst hi'
      simp only [List.getElem?_append_right (Nat.le_refl _), Nat.sub_self, List.getElem?_cons_zero, Option.some.injEq] at hq
      subst hq
      exact Ob.ok_mono (by simp) ho
  · intro i hi
    show (if i = H.length then w.heap.size else β i) = _
    rw [if_neg (by have := h.n0; omega)]
    exact h.base i hi
  · have := h.n0; simp; omega
  · refine ⟨h.fr.os, h.fr.tape, h.fr.output, by simp; exact Nat.le_succ_of_le h.fr.size, fun k hk hn => ?_⟩
    have := h.fr.keep k hk hn
    have hs := h.fr.size
    simp only [World.alloc]
    rw [Array.getElem?_push, if_neg (by omega)]
    exact this
  · intro i hi hl
    show c.w0.heap.size ≤ (if i = H.length then w.heap.size else β i)
    by_cases e : i = H.length
    · rw [if_pos e]; exact h.fr.size
    · rw [if_neg e]; simp only [List.length_append, List.length_cons, List.length_nil] at hl; exact h.new i hi (by omega)

/-- A block becomes another one. -/
theorem WSat.setBlk (h : WSat c β H w) {i : Nat} (hi : i < H.length) (o : Ob) (ho : o.ok H.length) {w' : World}
    (hw : w'.os = w.os ∧ w'.tape = w.tape ∧ w'.output = w.output) (hs : w'.heap.size = w.heap.size)
    (hb : w'.heap[β i]? = some (o.obj β)) (hk : ∀ k, k ≠ β i → w'.heap[k]? = w.heap[k]?) : Mv c β H w β (H.set i o) w' := by
  have hfr : Fr w β H.length w' := ⟨hw.1, hw.2.1, hw.2.2, by rw [hs]; exact Nat.le_refl _, fun k _ hn => hk k (hn i hi)⟩
  refine ⟨⟨?_, ?_, ?_, ?_, ?_, ?_, ?_, h.ro⟩, fun _ _ => rfl, by simp, hfr, fun j h1 h2 => by simp at h2; omega⟩
  · intro j k hj hk' e
    simp only [List.length_set] at hj hk'
    exact h.inj j k hj hk' e
  · intro j q hq
    by_cases e : i = j
    · subst e
      simp only [List.getElem?_set_self hi, Option.some.injEq] at hq
      subst hq
      exact hb
    · rw [List.getElem?_set_ne e] at hq
      have hj := h.lenOf hq
      rw [hk (β j) (fun e' => e (h.inj i j hi hj e'.symm))]
      exact h.blk j q hq
  · intro j q hq
    simp only [List.length_set]
    by_cases e : i = j
    · subst e
      simp only [List.getElem?_set_self hi, Option.some.injEq] at hq
      subst hq
      exact ho
    · rw [List.getElem?_set_ne e] at hq
      exact h.ok j q hq
  · exact h.base
  · simpa using h.n0
  · refine ⟨hw.1.trans h.fr.os, hw.2.1.trans h.fr.tape, hw.2.2.trans h.fr.output, by rw [hs]; exact h.fr.size, fun k hk' hn => ?_⟩
    rw [hk k ?_]
    · exact h.fr.keep k hk' hn
    · intro e
      rcases Nat.lt_or_ge i c.n0 with h' | h'
      · exact hn i h' (by rw [e]; exact h.base i h')
      · have := h.new i h' hi; omega
  · intro j hj hl
    simp only [List.length_set] at hl
    exact h.new j hj hl
theorem WSat.drew (h : WSat c β H w) : WSat c β H w.drew :=
  ⟨h.inj, h.blk, h.ok, h.base, h.n0, ⟨h.fr.os, h.fr.tape, h.fr.output, h.fr.size, h.fr.keep⟩, h.new, h.ro⟩
theorem WSat.tick (h : WSat c β H w) (d : Nat) : WSat c β H { w with drawn := d } :=
  ⟨h.inj, h.blk, h.ok, h.base, h.n0, ⟨h.fr.os, h.fr.tape, h.fr.output, h.fr.size, h.fr.keep⟩, h.new, h.ro⟩
theorem Mv.tick (h : Mv c β H w β' H' w') (d : Nat) : Mv c β H w β' H' { w' with drawn := d } :=
  ⟨h.sat.tick d, h.agree, h.len, ⟨h.fr.os, h.fr.tape, h.fr.output, h.fr.size, h.fr.keep⟩, h.new⟩
theorem WSat.grow (h : WSat c β H w) (g : Grows w w') : WSat c β H w' := by
  refine ⟨h.inj, fun i o ho => ?_, h.ok, h.base, h.n0, ?_, h.new, h.ro⟩
  · have hi := h.lenOf ho
    rw [g.keep _ (h.lt hi)]
    exact h.blk i o ho
  · exact ⟨g.os.trans h.fr.os, g.tape.trans h.fr.tape, g.output.trans h.fr.output, Nat.le_trans h.fr.size g.size, fun k hk hn => (g.keep k (Nat.lt_of_lt_of_le hk h.fr.size)).trans (h.fr.keep k hk hn)⟩
/-- Where the local heap has but grown, the world has. -/
theorem Mv.grows (h : Mv c β H w β' H' w') (hw : WSat c β H w) (hp : H <+: H') : Grows w w' := by
  refine ⟨h.fr.os, h.fr.tape, h.fr.output, h.fr.size, fun k hk => ?_⟩
  by_cases e : ∃ i, i < H.length ∧ k = β i
  · obtain ⟨i, hi, rfl⟩ := e
    have ho : H[i]? = some H[i] := by simp [hi]
    obtain ⟨t, ht⟩ := hp
    have ho' : H'[i]? = some H[i] := by rw [← ht, List.getElem?_append_left hi]; exact ho
    have h1 := h.sat.blk i _ ho'
    rw [h.agree i hi] at h1
    rw [h1, hw.blk i _ ho, Ob.obj_congr h.agree (hw.ok i _ ho)]
  · exact h.fr.keep k hk fun i hi he => e ⟨i, hi, he⟩
theorem Mv.trans {β₁ β₂ : Nat → Nat} {H₁ H₂ : Hp} {w₁ w₂ : World} (h : Mv c β H w β₁ H₁ w₁) (k : Mv c β₁ H₁ w₁ β₂ H₂ w₂) : Mv c β H w β₂ H₂ w₂ := by
  refine ⟨k.sat, fun i hi => (k.agree i (Nat.lt_of_lt_of_le hi h.len)).trans (h.agree i hi), Nat.le_trans h.len k.len, ?_, fun i h1 h2 => ?_⟩
  · refine ⟨k.fr.os.trans h.fr.os, k.fr.tape.trans h.fr.tape, k.fr.output.trans h.fr.output, Nat.le_trans h.fr.size k.fr.size, fun j hj hn => ?_⟩
    refine (k.fr.keep j (Nat.lt_of_lt_of_le hj h.fr.size) fun i hi e => ?_).trans (h.fr.keep j hj hn)
    rcases Nat.lt_or_ge i H.length with h' | h'
    · exact hn i h' (e.trans (h.agree i h'))
    · have := h.new i h' hi
      omega
  · rcases Nat.lt_or_ge i H₁.length with h' | h'
    · rw [k.agree i h']; exact h.new i h1 h'
    · exact Nat.le_trans h.fr.size (k.new i h' h2)
end basics
end Go.Eng
