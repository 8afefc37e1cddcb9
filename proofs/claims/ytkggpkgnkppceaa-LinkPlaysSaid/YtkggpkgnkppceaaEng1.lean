/- The engine, part 1: what each operation does to slots and the local heap, as a proposition about what follows. -/
import Derived.Test.YtkggpkgnkppceaaEng0
import Derived.Laws.FloatArith
set_option linter.unusedVariables false
namespace Go.Eng

def optx {α : Type} (o : Option α) (K : α → Prop) : Prop := match o with
  | some x => K x
  | none => False
def condx (b : Bool) (T E : Prop) : Prop := match b with
  | true => T
  | false => E
def needx (b : Bool) (K : Prop) : Prop := match b with
  | true => K
  | false => False
theorem optx_of {α : Type} {o : Option α} {K : α → Prop} {x : α} (h : o = some x) (k : K x) : optx o K := by subst h; exact k
theorem condx_of {b : Bool} {T E : Prop} (t : b = true → T) (e : b = false → E) : condx b T E := by cases b <;> simp_all [condx]
theorem needx_of {b : Bool} {K : Prop} (h : b = true) (k : K) : needx b K := by subst h; exact k
theorem optx_elim {α : Type} {o : Option α} {K : α → Prop} (h : optx o K) : ∃ x, o = some x ∧ K x := by
  cases o with
  | none => exact h.elim
  | some x => exact ⟨x, rfl, h⟩
theorem condx_elim {b : Bool} {T E : Prop} (h : condx b T E) : (b = true ∧ T) ∨ (b = false ∧ E) := by cases b <;> simp_all [condx]
theorem needx_elim {b : Bool} {K : Prop} (h : needx b K) : b = true ∧ K := by cases b <;> simp_all [needx]

def A.ofVal : Value → Option A
  | .bool b => some (.bool b)
  | .int k n => some (.int k n)
  | .float k b => some (.flt k b)
  | .complex k r i => some (.cpx k r i)
  | .string s => some (.str s)
  | .pointer none => some .nilp
  | .slice none 0 0 => some .nils
  | .nilFunc => some .nilf
  | .nilIface => some .nili
  | .map none => some .nilm
  | .chan none => some .nilc
  | _ => none
def ofVals : List Value → Option (List A)
  | [] => some []
  | v :: l => match A.ofVal v, ofVals l with
    | some x, some xs => some (x :: xs)
    | _, _ => none
def V.ofVal : Value → Option V
  | .agg cs => match ofVals cs.toList with
    | some xs => some (.g xs)
    | none => none
  | v => match A.ofVal v with
    | some x => some (.a x)
    | none => none
def rho (F : Frm) : Operand → Option V
  | .tmp t => look F t
  | .const v => V.ofVal v
  | .func f => some (.a (.clo f []))
  | .global g => some (.a (.rptr ⟨g, 0, none⟩))
def rhos (F : Frm) : List Operand → Option (List V)
  | [] => some []
  | x :: l => match rho F x, rhos F l with
    | some v, some vs => some (v :: vs)
    | _, _ => none

def aggOf (P : Program) (t : TypeId) : Option Bool := match P.underlying t with
  | some (.struct _) => some true
  | some (.array _ _) => some true
  | some _ => some false
  | none => none
def zeros (P : Program) (t : TypeId) : Option (List A) := match P.info? t with
  | some i => match i.zero with
    | some v => ofVals v.cells.toList
    | none => none
  | none => none
def storeL : List A → Nat → List A → List A
  | cs, _, [] => cs
  | cs, o, x :: xs => storeL (cs.set o x) (o + 1) xs
/-- n cells, filled up by one element's zero cells. -/
def repl (zs : List A) (n : Nat) : List A := match zs with
  | [z] => List.replicate n z
  | zs => (List.range n).map fun i => zs.getD (i % zs.length) .nilp
/-- A part of a struct or an array. -/
def partx (P : Program) (t : TypeId) (cs : List A) (off : Nat) (K : V → Prop) : Prop :=
  match aggOf P t, P.info? t with
  | some false, _ => optx cs[off]? fun x => K (.a x)
  | some true, some i => K (.g ((cs.take (off + i.size)).drop off))
  | _, _ => False
def fillx (P : Program) (place : Nat → Option (Nat × Nat)) : List A → List (Nat × V) → (List A → Prop) → Prop
  | cs, [], K => K cs
  | cs, (i, v) :: l, K => match place i, v.cells? with
    | some (off, size), some xs => needx (xs.length == size && decide (off + size ≤ cs.length)) (fillx P place (storeL cs off xs) l K)
    | _, _ => False
def partsx (F : Frm) : List (Nat × Operand) → Option (List (Nat × V))
  | [] => some []
  | (i, x) :: l => match rho F x, partsx F l with
    | some v, some vs => some ((i, v) :: vs)
    | _, _ => none
/-- Offsets and sizes of a struct's fields. -/
def places (P : Program) : List Field → Option (List (Nat × Nat))
  | [] => some []
  | f :: l => match P.info? f.type, places P l with
    | some i, some r => some ((f.offset, i.size) :: r)
    | _, _ => none

/-- A row of elements: where a slice leads. -/
def rowx (ro : Addr → A → Prop) (H : Hp) (x : A) (n : Nat) (K : List A → Prop) : Prop := match x with
  | .nils => needx (n == 0) (K [])
  | .slc id off _ _ => match H[id]? with
    | some (.cells cs _ _) => needx (decide (off + n ≤ cs.length)) (K ((cs.take (off + n)).drop off))
    | _ => False
  | .rslc p _ _ => ∃ xs : List A, xs.length = n ∧ (∀ j y, xs[j]? = some y → ro (p.add j) y) ∧ K xs
  | _ => False
def lenA : A → Option Nat
  | .nils => some 0
  | .slc _ _ l _ => some l
  | .rslc _ l _ => some l
  | .str s => some s.size
  | _ => none
@[irreducible] def u8s (s : List UInt8) : List A := s.map fun b => .int .u8 b.toNat
def bytesOf : List A → Option (List UInt8)
  | [] => some []
  | .int .u8 n :: l => match bytesOf l with
    | some r => some (UInt8.ofNat n.toNat :: r)
    | none => none
  | _ :: _ => none

/-- Two aggregates, told equal or not. -/
def EqAgg (P : Program) (t : TypeId) (xs ys : List A) (b : Bool) : Prop :=
  ∀ (β : Num) (w : World), (∀ x ∈ xs, x.gh β) → (∀ y ∈ ys, y.gh β) → (Op.equal t (.agg (xs.map (A.val β)).toArray) (.agg (ys.map (A.val β)).toArray)).run P w = .ok b w

structure fltx (k : FloatKind) (x y : Nat) (r : Option Nat) (K : A → Prop) : Prop where
  run : match r with
    | some r => K (.flt k r)
    | none => ∀ t : Nat, K (.flt k ((Question.nanBits k x y).cut t))
@[irreducible] def fLtK (k : FloatKind) (a b : Nat) : Bool := k.format.order a b == some .lt
@[irreducible] def fEqK (k : FloatKind) (a b : Nat) : Bool := k.format.order a b == some .eq
@[irreducible] def fGtK (k : FloatKind) (a b : Nat) : Bool := k.format.order a b == some .gt
/-- The lesser, or the greater, of two floats of which none is NaN. -/
structure fmmx (k : FloatKind) (mx : Bool) (x y : Nat) (K : Nat → Prop) : Prop where
  run : match k.format.order x y with
    | none => False
    | some .lt => K (if mx then y else x)
    | some .gt => K (if mx then x else y)
    | some .eq => K (if (k.decode x).neg then (if mx then y else x) else (if mx then x else y))
def bitx (op : BinOp) (k : IntKind) (a b : Int) : Int := match op with
  | .and => k.wrap (BitVec.ofInt k.bits a &&& BitVec.ofInt k.bits b).toNat
  | .or => k.wrap (BitVec.ofInt k.bits a ||| BitVec.ofInt k.bits b).toNat
  | .xor => k.wrap (BitVec.ofInt k.bits a ^^^ BitVec.ofInt k.bits b).toNat
  | _ => k.wrap (BitVec.ofInt k.bits a &&& ~~~ BitVec.ofInt k.bits b).toNat
def intx (op : BinOp) (k : IntKind) (a b : Int) (K : A → Prop) : Prop := match op with
  | .add => K (.int k (k.wrap (a + b)))
  | .sub => K (.int k (k.wrap (a - b)))
  | .mul => K (.int k (k.wrap (a * b)))
  | .quo => needx (decide (b ≠ 0)) (K (.int k (k.wrap (a.tdiv b))))
  | .rem => needx (decide (b ≠ 0)) (K (.int k (a.tmod b)))
  | .and => K (.int k (bitx .and k a b))
  | .or => K (.int k (bitx .or k a b))
  | .xor => K (.int k (bitx .xor k a b))
  | .andNot => K (.int k (bitx .andNot k a b))
  | .eql => K (.bool (a == b))
  | .neq => K (.bool (a != b))
  | .lss => K (.bool (decide (a < b)))
  | .leq => K (.bool (decide (a ≤ b)))
  | .gtr => K (.bool (decide (a > b)))
  | .geq => K (.bool (decide (a ≥ b)))
  | _ => False
def floatx (op : BinOp) (k : FloatKind) (a b : Nat) (K : A → Prop) : Prop := match op with
  | .add => fltx k a b (k.format.add a b) K
  | .sub => fltx k a b (k.format.sub a b) K
  | .mul => fltx k a b (k.format.mul a b) K
  | .quo => fltx k a b (k.format.div a b) K
  | .eql => K (.bool (fEqK k a b))
  | .neq => K (.bool (!fEqK k a b))
  | .lss => K (.bool (fLtK k a b))
  | .leq => K (.bool (fLtK k a b || fEqK k a b))
  | .gtr => K (.bool (fGtK k a b))
  | .geq => K (.bool (fGtK k a b || fEqK k a b))
  | _ => False
def strx (op : BinOp) (x y : ByteArray) (K : A → Prop) : Prop := match op with
  | .add => needx (decide (x.size + y.size ≤ 9223372036854775807)) (K (.str (x ++ y)))
  | .eql => K (.bool (x.data.toList == y.data.toList))
  | .neq => K (.bool !(x.data.toList == y.data.toList))
  | .lss => K (.bool (Op.bytesLess x.data.toList y.data.toList))
  | .leq => K (.bool (Op.bytesLess x.data.toList y.data.toList || x.data.toList == y.data.toList))
  | .gtr => K (.bool !(Op.bytesLess x.data.toList y.data.toList || x.data.toList == y.data.toList))
  | .geq => K (.bool !(Op.bytesLess x.data.toList y.data.toList))
  | _ => False
/-- '==' on other atoms, by their type. -/
def eqAtom (P : Program) (t : TypeId) (x y : A) : Option Bool := match P.underlying t, x, y with
  | some .bool, .bool a, .bool b => some (a == b)
  | some (.pointer _), .nilp, .nilp => some true
  | some (.pointer _), .nilp, .ptr _ _ => some false
  | some (.pointer _), .nilp, .rptr _ => some false
  | some (.pointer _), .ptr _ _, .nilp => some false
  | some (.pointer _), .rptr _, .nilp => some false
  | some (.slice _), .nils, .nils => some true
  | some (.slice _), .nils, .slc _ _ _ c => (match Nat.ble 1 c with
    | true => some false
    | false => none)
  | some (.slice _), .nils, .rslc _ _ _ => some false
  | some (.slice _), .slc _ _ _ c, .nils => (match Nat.ble 1 c with
    | true => some false
    | false => none)
  | some (.slice _), .rslc _ _ _, .nils => some false
  | some (.func _ _ _), .nilf, .nilf => some true
  | some (.func _ _ _), .nilf, .clo _ _ => some false
  | some (.func _ _ _), .clo _ _, .nilf => some false
  | _, _, _ => none
def binA (P : Program) (op : BinOp) (t : TypeId) (x y : A) (K : A → Prop) : Prop := match x, y with
  | .int k a, .int k' b => match op with
    | .shl => needx (decide (0 ≤ b)) (K (.int k (k.wrap (a * 2 ^ (min b.toNat k.bits)))))
    | .shr => needx (decide (0 ≤ b)) (K (.int k (a.fdiv (2 ^ (min b.toNat k.bits)))))
    | op => needx (decide (k = k')) (intx op k a b K)
  | .flt k a, .flt k' b => needx (decide (k = k')) (floatx op k a b K)
  | .str a, .str b => strx op a b K
  | x, y => match op with
    | .eql => optx (eqAtom P t x y) fun b => K (.bool b)
    | .neq => optx (eqAtom P t x y) fun b => K (.bool !b)
    | _ => False
def binx (P : Program) (op : BinOp) (t : TypeId) (x y : V) (K : V → Prop) : Prop := match x, y with
  | .a x, .a y => binA P op t x y fun r => K (.a r)
  | .g xs, .g ys => needx (!P.eqGuardType P.depth t) (match op with
    | .eql => ∃ b, EqAgg P t xs ys b ∧ K (.a (.bool b))
    | .neq => ∃ b, EqAgg P t xs ys b ∧ K (.a (.bool !b))
    | _ => False)
  | _, _ => False
def unx (op : UnOp) (x : A) (K : A → Prop) : Prop := match op, x with
  | .not, .bool b => K (.bool !b)
  | .neg, .int k n => K (.int k (k.wrap (0 - n)))
  | .xor, .int k n => K (.int k (bitx .xor k (if k.signed then -1 else k.max) n))
  | .neg, .flt k b => K (.flt k (Op.negFloat k b))
  | _, _ => False
def byteAt (s : ByteArray) (i : Int) : Option UInt8 := if 0 ≤ i then s[i.toNat]? else none
def nanc (k : FloatKind) (b : Nat) (K : A → Prop) : Prop := ∀ t : Nat, K (.flt k ((Question.nanConv k b).cut t))
@[irreducible] def i32s (l : List Nat) : List A := l.map fun (n : Nat) => A.int .i32 (n : Int)
def runesGo (s : ByteArray) : Nat → Nat → List Nat
  | 0, _ => []
  | b + 1, i => if i < s.size then (Utf8.decode s i).1 :: runesGo s b (i + (Utf8.decode s i).2) else []
/-- The runes of a text. -/
@[irreducible] def runesL (s : ByteArray) : List Nat := runesGo s s.size 0
/-- The rune that begins at a place, and how many bytes it has. -/
@[irreducible] def runeAt (s : ByteArray) (i : Nat) : Nat := (Utf8.decode s i).1
@[irreducible] def runeW (s : ByteArray) (i : Nat) : Nat := (Utf8.decode s i).2
def convA (P : Program) (ro : Addr → A → Prop) (src dst : TypeId) (x : A) (H : Hp) (K : A → Hp → Prop) : Prop :=
  match P.underlying src, P.underlying dst, x with
  | some _, some (.int k), .int _ n => K (.int k (k.wrap n)) H
  | some _, some (.float k), .int _ n => K (.flt k (k.nearest n)) H
  | some _, some .string, .str s => K (.str s) H
  | some _, some .string, .int _ n => K (.str (Utf8.encode n)) H
  | some _, some (.slice e), .str s => match P.underlying e with
    | some (.int .u8) => ∀ cap : Nat, s.size ≤ cap → K (.slc H.length 0 s.size cap) (H ++ [.cells (u8s s.data.toList ++ List.replicate (cap - s.size) (.int .u8 0)) e true])
    | some (.int .i32) => ∀ cap : Nat, (runesL s).length ≤ cap → K (.slc H.length 0 (runesL s).length cap) (H ++ [.cells (i32s (runesL s) ++ List.replicate (cap - (runesL s).length) (.int .i32 0)) e false])
    | _ => False
  | some (.slice e), some .string, x => match P.underlying e with
    | some (.int .u8) => optx (lenA x) fun n => rowx ro H x n fun cs => optx (bytesOf cs) fun bs => K (.str ⟨bs.toArray⟩) H
    | _ => False
  | some _, some (.float k), .flt s b => needx (decide (s = k)) (K (.flt k b) H)
  | some _, some (.int k), .flt s b => optx (floatToIntVal s b k) fun n => K (.int k n) H
  | _, _, _ => False

def convStill (P : Program) (d : TypeId) : Bool := match P.underlying d with
  | some (.slice _) => false
  | _ => true

def loadx (P : Program) (ro : Addr → A → Prop) (H : Hp) (t : TypeId) (x : V) (K : V → Prop) : Prop := match x with
  | .a (.ptr i off) => match H[i]? with
    | some (.cells cs _ _) => match aggOf P t, P.info? t with
      | some false, _ => optx cs[off]? fun x => K (.a x)
      | some true, some q => needx (decide (off + q.size ≤ cs.length)) (K (.g ((cs.take (off + q.size)).drop off)))
      | _, _ => False
    | _ => False
  | .a (.rptr p) => match aggOf P t, P.info? t with
    | some false, _ => ∃ x, ro p x ∧ K (.a x)
    | some true, some q => ∃ xs : List A, xs.length = q.size ∧ (∀ j y, xs[j]? = some y → ro (p.add j) y) ∧ K (.g xs)
    | _, _ => False
  | _ => False
def storex (P : Program) (H : Hp) (t : TypeId) (x v : V) (K : Hp → Prop) : Prop := match x with
  | .a (.ptr i off) => match H[i]?, v.cells?, P.info? t with
    | some (.cells cs ty mk), some xs, some q => needx (xs.length == q.size && decide (off + xs.length ≤ cs.length)) (K (H.set i (.cells (storeL cs off xs) ty mk)))
    | _, _, _ => False
  | _ => False
def fieldx (P : Program) (t : TypeId) (x : V) (f : Nat) (K : A → Prop) : Prop := match P.underlying t with
  | some (.struct fs) => match fs[f]? with
    | some g => match P.info? g.type with
      | some q => needx (q.size != 0) (match x with
        | .a (.ptr i off) => K (.ptr i (off + g.offset))
        | .a (.rptr p) => K (.rptr (p.add g.offset))
        | _ => False)
      | none => False
    | none => False
  | _ => False
def idxAddrx (P : Program) (t : TypeId) (x : V) (i : Int) (K : A → Prop) : Prop := match P.underlying t with
  | some (.array n e) => match P.info? e with
    | some q => needx (decide (0 ≤ i ∧ i < n)) (match x with
      | .a (.ptr b off) => K (.ptr b (off + i.toNat * q.size))
      | .a (.rptr p) => K (.rptr (p.add (i.toNat * q.size)))
      | _ => False)
    | none => False
  | some (.slice e) => match P.info? e with
    | some q => match x with
      | .a (.slc b off n _) => needx (decide (0 ≤ i ∧ i < n)) (K (.ptr b (off + i.toNat * q.size)))
      | .a (.rslc p n _) => needx (decide (0 ≤ i ∧ i < n)) (K (.rptr (p.add (i.toNat * q.size))))
      | _ => False
    | none => False
  | _ => False
def indexx (P : Program) (t : TypeId) (x : V) (i : Int) (K : V → Prop) : Prop := match P.underlying t, x with
  | some (.array n e), .g cs => match P.info? e with
    | some q => needx (decide (0 ≤ i ∧ i < n)) (partx P e cs (i.toNat * q.size) K)
    | none => False
  | some .string, .a (.str s) => optx (byteAt s i) fun b => K (.a (.int .u8 b.toNat))
  | _, _ => False
/-- A bound of a slice expression. -/
def bndx (F : Frm) (x : Option Operand) (dflt y : Nat) (K : Nat → Prop) : Prop := match x with
  | none => K dflt
  | some x => match rho F x with
    | some (.a (.int _ i)) => needx (decide (0 ≤ i ∧ i ≤ y)) (K i.toNat)
    | _ => False
def slicex (P : Program) (F : Frm) (t : TypeId) (x : V) (lo hi mx : Option Operand) (K : A → Prop) : Prop :=
  match P.underlying t, x with
  | some .string, .a (.str s) => match mx with
    | none => bndx F hi s.size s.size fun h => bndx F lo 0 h fun l => K (.str (s.extract l h))
    | some _ => False
  | some (.slice e), .a (.slc b off n cap) => match P.info? e with
    | some q => bndx F mx cap cap fun m => bndx F hi n m fun h => needx (!(hi.isNone && mx.isSome)) (bndx F lo 0 h fun l => K (.slc b (if m = l then off else off + l * q.size) (h - l) (m - l)))
    | none => False
  | some (.slice e), .a (.rslc p n cap) => match P.info? e with
    | some q => bndx F mx cap cap fun m => bndx F hi n m fun h => needx (!(hi.isNone && mx.isSome)) (bndx F lo 0 h fun l => K (.rslc (if m = l then p else p.add (l * q.size)) (h - l) (m - l)))
    | none => False
  | some (.slice e), .a .nils => match P.info? e with
    | some q => bndx F mx 0 0 fun m => bndx F hi 0 m fun h => needx (!(hi.isNone && mx.isSome)) (bndx F lo 0 h fun l => needx (h == 0 && m == 0) (K .nils))
    | none => False
  | some (.array n e), .a (.ptr b off) => match P.info? e with
    | some q => bndx F mx n n fun m => bndx F hi n m fun h => needx (!(hi.isNone && mx.isSome)) (bndx F lo 0 h fun l => K (.slc b (if m = l then off else off + l * q.size) (h - l) (m - l)))
    | none => False
  | _, _ => False
/-- May so much be made? (Not to be worked out by 'whnf': great numerals.) -/
@[irreducible] def mkOK (l c : Int) (b : Nat) : Bool := decide (0 ≤ l ∧ l ≤ c ∧ c ≤ 9223372036854775807 ∧ (b : Int) * c ≤ 281474976710656)
theorem mkOK_of {l c : Int} {b : Nat} (h : 0 ≤ l ∧ l ≤ c ∧ c ≤ 9223372036854775807 ∧ (b : Int) * c ≤ 281474976710656) : mkOK l c b = true := by unfold mkOK; exact decide_eq_true h
def makex (P : Program) (t : TypeId) (l c : V) (H : Hp) (K : V → Hp → Prop) : Prop := match P.underlying t, l, c with
  | some (.slice e), .a (.int _ l), .a (.int _ c) => match P.info? e with
    | some q => needx (mkOK l c q.bytes) (match zeros P e with
      | some zs => needx (zs.length == q.size && q.size != 0) (K (.a (.slc H.length 0 l.toNat c.toNat)) (H ++ [.cells (repl zs (c.toNat * q.size)) e false]))
      | none => False)
    | none => False
  | _, _, _ => False
/-- What append and copy read. -/
def srcx (ro : Addr → A → Prop) (H : Hp) (x : A) (n size : Nat) (K : List A → Prop) : Prop := match x with
  | .str s => needx (size == 1) (K (u8s (s.data.toList.take n)))
  | x => rowx ro H x (n * size) K
def isIntD : TypeDesc → Bool
  | .int _ => true
  | _ => false
def appendx (P : Program) (ro : Addr → A → Prop) (ts : Array TypeId) (H : Hp) (x y : A) (K : V → Hp → Prop) : Prop :=
  match ts[0]?, ts[1]? with
  | some t, some u => match P.underlying t, P.underlying u with
    | some (.slice e), some d => needx (!isIntD d) (match P.info? e, zeros P e, lenA y with
      | some q, some zs, some m => needx (zs.length == q.size && q.size != 0 && q.bytes != 0) (srcx ro H y m q.size fun new => match x with
        | .nils => match m with
          | 0 => K (.a .nils) H
          | m + 1 => needx (decide ((m + 1) * q.bytes ≤ 140737488355328 ∧ m + 1 ≤ 9223372036854775807))
            (∀ cap : Nat, m + 1 ≤ cap → K (.a (.slc H.length 0 (m + 1) cap)) (H ++ [.cells (new ++ repl zs ((cap - (m + 1)) * q.size)) e false]))
        | .slc b off n cap => match H[b]? with
          | some (.cells cs ty mk) => condx (decide (n + m ≤ cap))
              (needx (decide (off + n * q.size + new.length ≤ cs.length)) (K (.a (.slc b off (n + m) cap)) (H.set b (.cells (storeL cs (off + n * q.size) new) ty mk))))
              (needx (decide (off + n * q.size ≤ cs.length ∧ (n + m) * q.bytes ≤ 140737488355328 ∧ n + m ≤ 9223372036854775807))
                (∀ cap' : Nat, n + m ≤ cap' → K (.a (.slc H.length 0 (n + m) cap')) (H ++ [.cells ((cs.take (off + n * q.size)).drop off ++ new ++ repl zs ((cap' - (n + m)) * q.size)) e false])))
          | _ => False
        | _ => False)
      | _, _, _ => False)
    | _, _ => False
  | _, _ => False
def copyx (P : Program) (ro : Addr → A → Prop) (ts : Array TypeId) (H : Hp) (x y : A) (K : V → Hp → Prop) : Prop :=
  match ts[0]? with
  | some t => match P.underlying t with
    | some (.slice e) => match P.info? e, lenA x, lenA y with
      | some q, some d, some m => srcx ro H y (Nat.min m d) q.size fun new => match x with
        | .nils => K (.a (.int .i64 (Nat.min m d : Nat))) H
        | .slc b off n cap => match H[b]? with
          | some (.cells cs ty mk) => needx (decide (off + new.length ≤ cs.length)) (K (.a (.int .i64 (Nat.min m d : Nat))) (H.set b (.cells (storeL cs off new) ty mk)))
          | _ => False
        | _ => False
      | _, _, _ => False
    | _ => False
  | none => False
def clearx (P : Program) (ts : Array TypeId) (H : Hp) (x : A) (K : V → Hp → Prop) : Prop :=
  match ts[0]? with
  | some t => match P.underlying t, x with
    | some (.slice e), .nils => K (.t []) H
    | some (.slice e), .slc b off n cap => match n with
      | 0 => K (.t []) H
      | n + 1 => match P.info? e, zeros P e, H[b]? with
        | some q, some zs, some (.cells cs ty mk) => needx (zs.length == q.size && q.size != 0 && decide (off + (n + 1) * q.size ≤ cs.length)) (K (.t []) (H.set b (.cells (storeL cs off (repl zs ((n + 1) * q.size))) ty mk)))
        | _, _, _ => False
    | _, _ => False
  | none => False
def lenx (P : Program) (ts : Array TypeId) (x : V) (K : V → Prop) : Prop :=
  match ts[0]? with
  | some t => match P.underlying t, x with
    | some .string, .a (.str s) => K (.a (.int .i64 s.size))
    | some (.array n _), _ => K (.a (.int .i64 n))
    | some (.slice _), .a x => match x with
      | .nils => K (.a (.int .i64 0))
      | .slc _ _ n _ => K (.a (.int .i64 n))
      | .rslc _ n _ => K (.a (.int .i64 n))
      | _ => False
    | some (.pointer a), _ => match P.underlying a with
      | some (.array n _) => K (.a (.int .i64 n))
      | _ => False
    | _, _ => False
  | none => False
def capx (P : Program) (ts : Array TypeId) (x : V) (K : V → Prop) : Prop :=
  match ts[0]? with
  | some t => match P.underlying t, x with
    | some (.slice _), .a x => match x with
      | .nils => K (.a (.int .i64 0))
      | .slc _ _ _ n => K (.a (.int .i64 n))
      | .rslc _ _ n => K (.a (.int .i64 n))
      | _ => False
    | _, _ => False
  | none => False
def builtx (P : Program) (ro : Addr → A → Prop) (b : Builtin) (ts : Array TypeId) (args : List V) (H : Hp) (K : V → Hp → Prop) : Prop :=
  match b, args with
  | .len, [x] => lenx P ts x fun v => K v H
  | .cap, [x] => capx P ts x fun v => K v H
  | .append, [.a x, .a y] => appendx P ro ts H x y K
  | .copy, [.a x, .a y] => copyx P ro ts H x y K
  | .clear, [.a x] => clearx P ts H x K
  | .max, [.a (.int k x), .a (.int k' y)] => K (.a (.int k (if y > x then y else x))) H
  | .min, [.a (.int k x), .a (.int k' y)] => K (.a (.int k (if y < x then y else x))) H
  | .max, [.a (.flt k x), .a (.flt k' y)] => fmmx k true x y fun r => K (.a (.flt k r)) H
  | .min, [.a (.flt k x), .a (.flt k' y)] => fmmx k false x y fun r => K (.a (.flt k r)) H
  | .complex, [.a (.flt k x), .a (.flt k' y)] => needx (decide (k = k')) (K (.a (.cpx k x y)) H)
  | .real, [.a (.cpx k x _)] => K (.a (.flt k x)) H
  | .imag, [.a (.cpx k _ y)] => K (.a (.flt k y)) H
  | .max, [.a (.str x), .a (.str y)] => condx (!Op.bytesLess x.data.toList y.data.toList) (K (.a (.str x)) H) (K (.a (.str y)) H)
  | _, _ => False

/-- A call by its contract: from any world that is as the local heap says, it returns, and the world is as the new heap says. -/
structure Fn (P : Program) (ro : Addr → A → Prop) (f : FuncId) (args : List V) (H : Hp) (K : V → Hp → Prop) : Prop where
  run : ∀ (β : Num) (w : World), (∀ v ∈ args, v.fit β H.length) →
    WSat { P := P, ro := ro, n0 := H.length, β0 := β, w0 := w, nt := 0 } β H w →
    Calls P f (args.map (V.val β)).toArray w fun e w' => ∃ v H' β', K v H' ∧ e = .returned (v.val β') ∧ v.fit β' H'.length ∧
      Mv { P := P, ro := ro, n0 := H.length, β0 := β, w0 := w, nt := 0 } β H w β' H' w'

/-- A function without a body: what the model's table says. -/
structure extx (P : Program) (fn : Func) (args : List V) (K : V → Prop) : Prop where
  run : (fn.name == "runtime.NumGoroutine") = false ∧ Extern.findNext fn = none ∧ ∃ e, Extern.find fn = some e ∧
    ∀ (β : Num) (w : World), ∃ r d, K r ∧ r.ok 0 ∧ (e (args.map (V.val β)).toArray).run P w = .ok (r.val β) { w with drawn := d }

def callx (P : Program) (ro : Addr → A → Prop) (F : Frm) (H : Hp) (c : Call) (K : V → Hp → Prop) : Prop :=
  match c.callee, rhos F c.args.toList with
  | .value f, some args => match rho F f with
    | some (.a (.clo f caps)) => match P.funcs[f]? with
      | some fn => match fn.body, caps with
        | some _, caps => needx (fn.name != "runtime.NumGoroutine") (Fn P ro f (args ++ caps.map fun q => .a (.ptr q.1 q.2)) H K)
        | none, [] => extx P fn args fun v => K v H
        | none, _ :: _ => False
      | none => False
    | _ => False
  | .builtin b, some args => builtx P ro b c.argTypes args H K
  | _, _ => False
def capsx (F : Frm) : List Operand → Option (List (Nat × Nat))
  | [] => some []
  | x :: l => match rho F x, capsx F l with
    | some (.a (.ptr i o)), some r => some ((i, o) :: r)
    | _, _ => none

def opx (P : Program) (ro : Addr → A → Prop) (F : Frm) (H : Hp) (o : Oper) (K : V → Hp → Prop) : Prop :=
  match o.op with
  | .move x => optx (rho F x) fun v => K v H
  | .assign x => optx (rho F x) fun v => K v H
  | .pick c a b => match rho F c with
    | some (.a (.bool t)) => condx t (optx (rho F a) fun v => K v H) (optx (rho F b) fun v => K v H)
    | _ => False
  | .alloc t => optx (zeros P t) fun cs => K (.a (.ptr H.length 0)) (H ++ [.cells cs t false])
  | .box t x => match rho F x with
    | some v => optx v.cells? fun cs => K (.a (.ptr H.length 0)) (H ++ [.cells cs t false])
    | none => False
  | .build t ps => match P.underlying t, zeros P t, partsx F ps.toList with
    | some (.struct fs), some zs, some l => match places P fs.toList with
      | some pl => fillx P (fun i => pl[i]?) zs l fun cs => K (.g cs) H
      | none => False
    | some (.array _ e), some zs, some l => match P.info? e with
      | some q => fillx P (fun i => some (i * q.size, q.size)) zs l fun cs => K (.g cs) H
      | none => False
    | _, _, _ => False
  | .buildSlice t n ps => match P.underlying t, partsx F ps.toList with
    | some (.slice e), some l => match P.info? e, zeros P e with
      | some q, some zs => needx (decide (n * q.size ≤ 16777216) && zs.length == q.size && q.size != 0)
        (fillx P (fun i => some (i * q.size, q.size)) (repl zs (n * q.size)) l fun cs => K (.a (.slc H.length 0 n n)) (H ++ [.cells cs e false]))
      | _, _ => False
    | _, _ => False
  | .load t x => optx (rho F x) fun v => loadx P ro H t v fun r => K r H
  | .store t x y => match rho F x, rho F y with
    | some p, some v => storex P H t p v fun H' => K (.t []) H'
    | _, _ => False
  | .nilCheck x => match rho F x with
    | some (.a (.ptr i off)) => K (.a (.ptr i off)) H
    | some (.a (.rptr p)) => K (.a (.rptr p)) H
    | _ => False
  | .binOp op t x y _ => match rho F x, rho F y with
    | some a, some b => binx P op t a b fun r => K r H
    | _, _ => False
  | .unOp op _ x => match rho F x with
    | some (.a x) => unx op x fun r => K (.a r) H
    | _ => False
  | .convert s d x => match rho F x with
    | some (.a x) => convA P ro s d x H fun r H' => K (.a r) H'
    | _ => False
  | .sliceToArrayPointer t x => match P.underlying t, rho F x with
    | some (.array n _), some (.a (.slc b off l _)) => needx (decide (n ≤ l) && Nat.ble 1 n) (K (.a (.ptr b off)) H)
    | some (.array n _), some (.a (.rslc p l _)) => needx (decide (n ≤ l)) (K (.a (.rptr p)) H)
    | _, _ => False
  | .makeFunc (.func f) first caps => match first.toList, capsx F caps.toList with
    | [], some l => K (.a (.clo f l)) H
    | _, _ => False
  | .makeSlice t l c => match rho F l, rho F c with
    | some l, some c => makex P t l c H K
    | _, _ => False
  | .slice t x lo hi mx => optx (rho F x) fun v => slicex P F t v lo hi mx fun r => K (.a r) H
  | .fieldAddr t x f => optx (rho F x) fun v => fieldx P t v f fun r => K (.a r) H
  | .field t x f => match rho F x, P.underlying t with
    | some (.g cs), some (.struct fs) => match fs[f]? with
      | some g => partx P g.type cs g.offset fun r => K r H
      | none => False
    | _, _ => False
  | .indexAddr t x i => match rho F x, rho F i with
    | some v, some (.a (.int _ i)) => idxAddrx P t v i fun r => K (.a r) H
    | _, _ => False
  | .index t x i => match rho F x, rho F i with
    | some v, some (.a (.int _ i)) => indexx P t v i fun r => K r H
    | _, _ => False
  | .extract x i => match rho F x with
    | some (.t xs) => optx xs[i]? fun e => K e.toV H
    | _ => False
  | .call c => callx P ro F H c K
  | .range t x => match P.underlying t, rho F x with
    | some .string, some (.a (.str s)) => K (.a (.ptr H.length 0)) (H ++ [.iter s 0])
    | _, _ => False
  | .next x true => match rho F x with
    | some (.a (.ptr i 0)) => match H[i]? with
      | some (.iter s pos) => condx (decide (pos < s.size))
          (K (.t [.a (.bool true), .a (.int .i64 (pos : Int)), .a (.int .i32 (runeAt s pos : Nat))]) (H.set i (.iter s (pos + runeW s pos))))
          (K (.t [.a (.bool false)]) H)
      | _ => False
    | _ => False
  | _ => False
end Go.Eng
