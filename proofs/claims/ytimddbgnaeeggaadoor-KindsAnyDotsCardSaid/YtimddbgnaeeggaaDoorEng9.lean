/- The engine, parts 1 2 3 4 5 6 7 8 9. -/
import Derived.Laws.Append
import Derived.Laws.BytesString
import Derived.Laws.FloatArith
import Derived.Laws.Strings
import Derived.Test.YtimddbgnaeeggaaDoorEng0
/- The engine, part 1: what each operation does to slots and the local heap, as a proposition about what follows. -/
set_option linter.unusedVariables false
namespace Go.Eng

def optx {α : Type} (o : Option α) (K : α → Prop) : Prop := match o with
  | some x => K x
  | none => False
def condx (b : Bool) (T E : Prop) : Prop := match b with
  | true => T
  | false => E
def needx (b : Bool) (K : Prop) : Prop := match b with
  | true => K
  | false => False
theorem optx_of {α : Type} {o : Option α} {K : α → Prop} {x : α} (h : o = some x) (k : K x) : optx o K := by subst h; exact k
theorem condx_of {b : Bool} {T E : Prop} (t : b = true → T) (e : b = false → E) : condx b T E := by cases b <;> simp_all [condx]
theorem needx_of {b : Bool} {K : Prop} (h : b = true) (k : K) : needx b K := by subst h; exact k
theorem optx_elim {α : Type} {o : Option α} {K : α → Prop} (h : optx o K) : ∃ x, o = some x ∧ K x := by
  cases o with
  | none => exact h.elim
  | some x => exact ⟨x, rfl, h⟩
theorem condx_elim {b : Bool} {T E : Prop} (h : condx b T E) : (b = true ∧ T) ∨ (b = false ∧ E) := by cases b <;> simp_all [condx]
theorem needx_elim {b : Bool} {K : Prop} (h : needx b K) : b = true ∧ K := by cases b <;> simp_all [needx]

def A.ofVal : Value → Option A
  | .bool b => some (.bool b)
  | .int k n => some (.int k n)
  | .float k b => some (.flt k b)
  | .complex k r i => some (.cpx k r i)
  | .string s => some (.str s)
  | .pointer none => some .nilp
  | .slice none 0 0 => some .nils
  | .nilFunc => some .nilf
  | .nilIface => some .nili
  | .map none => some .nilm
  | .chan none => some .nilc
  | _ => none
def ofVals : List Value → Option (List A)
  | [] => some []
  | v :: l => match A.ofVal v, ofVals l with
    | some x, some xs => some (x :: xs)
    | _, _ => none
def V.ofVal : Value → Option V
  | .agg cs => match ofVals cs.toList with
    | some xs => some (.g xs)
    | none => none
  | v => match A.ofVal v with
    | some x => some (.a x)
    | none => none
def rho (F : Frm) : Operand → Option V
  | .tmp t => look F t
  | .const v => V.ofVal v
  | .func f => some (.a (.clo f []))
  | .global g => some (.a (.rptr ⟨g, 0, none⟩))
def rhos (F : Frm) : List Operand → Option (List V)
  | [] => some []
  | x :: l => match rho F x, rhos F l with
    | some v, some vs => some (v :: vs)
    | _, _ => none

def aggOf (P : Program) (t : TypeId) : Option Bool := match P.underlying t with
  | some (.struct _) => some true
  | some (.array _ _) => some true
  | some _ => some false
  | none => none
def zeros (P : Program) (t : TypeId) : Option (List A) := match P.info? t with
  | some i => match i.zero with
    | some v => ofVals v.cells.toList
    | none => none
  | none => none
def storeL : List A → Nat → List A → List A
  | cs, _, [] => cs
  | cs, o, x :: xs => storeL (cs.set o x) (o + 1) xs
/-- n cells, filled up by one element's zero cells. -/
def repl (zs : List A) (n : Nat) : List A := match zs with
  | [z] => List.replicate n z
  | zs => (List.range n).map fun i => zs.getD (i % zs.length) .nilp
/-- A part of a struct or an array. -/
def partx (P : Program) (t : TypeId) (cs : List A) (off : Nat) (K : V → Prop) : Prop :=
  match aggOf P t, P.info? t with
  | some false, _ => optx cs[off]? fun x => K (.a x)
  | some true, some i => K (.g ((cs.take (off + i.size)).drop off))
  | _, _ => False
def fillx (P : Program) (place : Nat → Option (Nat × Nat)) : List A → List (Nat × V) → (List A → Prop) → Prop
  | cs, [], K => K cs
  | cs, (i, v) :: l, K => match place i, v.cells? with
    | some (off, size), some xs => needx (xs.length == size && decide (off + size ≤ cs.length)) (fillx P place (storeL cs off xs) l K)
    | _, _ => False
def partsx (F : Frm) : List (Nat × Operand) → Option (List (Nat × V))
  | [] => some []
  | (i, x) :: l => match rho F x, partsx F l with
    | some v, some vs => some ((i, v) :: vs)
    | _, _ => none
/-- Offsets and sizes of a struct's fields. -/
def places (P : Program) : List Field → Option (List (Nat × Nat))
  | [] => some []
  | f :: l => match P.info? f.type, places P l with
    | some i, some r => some ((f.offset, i.size) :: r)
    | _, _ => none

/-- A row of elements: where a slice leads. -/
def rowx (ro : Addr → A → Prop) (H : Hp) (x : A) (n : Nat) (K : List A → Prop) : Prop := match x with
  | .nils => needx (n == 0) (K [])
  | .slc id off _ _ => match H[id]? with
    | some (.cells cs _ _) => needx (decide (off + n ≤ cs.length)) (K ((cs.take (off + n)).drop off))
    | _ => False
  | .rslc p _ _ => ∃ xs : List A, xs.length = n ∧ (∀ j y, xs[j]? = some y → ro (p.add j) y) ∧ K xs
  | _ => False
def lenA : A → Option Nat
  | .nils => some 0
  | .slc _ _ l _ => some l
  | .rslc _ l _ => some l
  | .str s => some s.size
  | _ => none
@[irreducible] def u8s (s : List UInt8) : List A := s.map fun b => .int .u8 b.toNat
def bytesOf : List A → Option (List UInt8)
  | [] => some []
  | .int .u8 n :: l => match bytesOf l with
    | some r => some (UInt8.ofNat n.toNat :: r)
    | none => none
  | _ :: _ => none

/-- Two aggregates, told equal or not. -/
def EqAgg (P : Program) (t : TypeId) (xs ys : List A) (b : Bool) : Prop :=
  ∀ (β : Num) (w : World), (∀ x ∈ xs, x.gh β) → (∀ y ∈ ys, y.gh β) → (Op.equal t (.agg (xs.map (A.val β)).toArray) (.agg (ys.map (A.val β)).toArray)).run P w = .ok b w

structure fltx (k : FloatKind) (x y : Nat) (r : Option Nat) (K : A → Prop) : Prop where
  run : match r with
    | some r => K (.flt k r)
    | none => ∀ t : Nat, K (.flt k ((Question.nanBits k x y).cut t))
@[irreducible] def fLtK (k : FloatKind) (a b : Nat) : Bool := k.format.order a b == some .lt
@[irreducible] def fEqK (k : FloatKind) (a b : Nat) : Bool := k.format.order a b == some .eq
@[irreducible] def fGtK (k : FloatKind) (a b : Nat) : Bool := k.format.order a b == some .gt
/-- The lesser, or the greater, of two floats of which none is NaN. -/
structure fmmx (k : FloatKind) (mx : Bool) (x y : Nat) (K : Nat → Prop) : Prop where
  run : match k.format.order x y with
    | none => False
    | some .lt => K (if mx then y else x)
    | some .gt => K (if mx then x else y)
    | some .eq => K (if (k.decode x).neg then (if mx then y else x) else (if mx then x else y))
def bitx (op : BinOp) (k : IntKind) (a b : Int) : Int := match op with
  | .and => k.wrap (BitVec.ofInt k.bits a &&& BitVec.ofInt k.bits b).toNat
  | .or => k.wrap (BitVec.ofInt k.bits a ||| BitVec.ofInt k.bits b).toNat
  | .xor => k.wrap (BitVec.ofInt k.bits a ^^^ BitVec.ofInt k.bits b).toNat
  | _ => k.wrap (BitVec.ofInt k.bits a &&& ~~~ BitVec.ofInt k.bits b).toNat
def intx (op : BinOp) (k : IntKind) (a b : Int) (K : A → Prop) : Prop := match op with
  | .add => K (.int k (k.wrap (a + b)))
  | .sub => K (.int k (k.wrap (a - b)))
  | .mul => K (.int k (k.wrap (a * b)))
  | .quo => needx (decide (b ≠ 0)) (K (.int k (k.wrap (a.tdiv b))))
  | .rem => needx (decide (b ≠ 0)) (K (.int k (a.tmod b)))
  | .and => K (.int k (bitx .and k a b))
  | .or => K (.int k (bitx .or k a b))
  | .xor => K (.int k (bitx .xor k a b))
  | .andNot => K (.int k (bitx .andNot k a b))
  | .eql => K (.bool (a == b))
  | .neq => K (.bool (a != b))
  | .lss => K (.bool (decide (a < b)))
  | .leq => K (.bool (decide (a ≤ b)))
  | .gtr => K (.bool (decide (a > b)))
  | .geq => K (.bool (decide (a ≥ b)))
  | _ => False
def floatx (op : BinOp) (k : FloatKind) (a b : Nat) (K : A → Prop) : Prop := match op with
  | .add => fltx k a b (k.format.add a b) K
  | .sub => fltx k a b (k.format.sub a b) K
  | .mul => fltx k a b (k.format.mul a b) K
  | .quo => fltx k a b (k.format.div a b) K
  | .eql => K (.bool (fEqK k a b))
  | .neq => K (.bool (!fEqK k a b))
  | .lss => K (.bool (fLtK k a b))
  | .leq => K (.bool (fLtK k a b || fEqK k a b))
  | .gtr => K (.bool (fGtK k a b))
  | .geq => K (.bool (fGtK k a b || fEqK k a b))
  | _ => False
def strx (op : BinOp) (x y : ByteArray) (K : A → Prop) : Prop := match op with
  | .add => needx (decide (x.size + y.size ≤ 9223372036854775807)) (K (.str (x ++ y)))
  | .eql => K (.bool (x.data.toList == y.data.toList))
  | .neq => K (.bool !(x.data.toList == y.data.toList))
  | .lss => K (.bool (Op.bytesLess x.data.toList y.data.toList))
  | .leq => K (.bool (Op.bytesLess x.data.toList y.data.toList || x.data.toList == y.data.toList))
  | .gtr => K (.bool !(Op.bytesLess x.data.toList y.data.toList || x.data.toList == y.data.toList))
  | .geq => K (.bool !(Op.bytesLess x.data.toList y.data.toList))
  | _ => False
/-- '==' on other atoms, by their type. -/
def eqAtom (P : Program) (t : TypeId) (x y : A) : Option Bool := match P.underlying t, x, y with
  | some .bool, .bool a, .bool b => some (a == b)
  | some (.pointer _), .nilp, .nilp => some true
  | some (.pointer _), .nilp, .ptr _ _ => some false
  | some (.pointer _), .nilp, .rptr _ => some false
  | some (.pointer _), .ptr _ _, .nilp => some false
  | some (.pointer _), .rptr _, .nilp => some false
  | some (.slice _), .nils, .nils => some true
  | some (.slice _), .nils, .slc _ _ _ c => (match Nat.ble 1 c with
    | true => some false
    | false => none)
  | some (.slice _), .nils, .rslc _ _ _ => some false
  | some (.slice _), .slc _ _ _ c, .nils => (match Nat.ble 1 c with
    | true => some false
    | false => none)
  | some (.slice _), .rslc _ _ _, .nils => some false
  | some (.func _ _ _), .nilf, .nilf => some true
  | some (.func _ _ _), .nilf, .clo _ _ => some false
  | some (.func _ _ _), .clo _ _, .nilf => some false
  | _, _, _ => none
def binA (P : Program) (op : BinOp) (t : TypeId) (x y : A) (K : A → Prop) : Prop := match x, y with
  | .int k a, .int k' b => match op with
    | .shl => needx (decide (0 ≤ b)) (K (.int k (k.wrap (a * 2 ^ (min b.toNat k.bits)))))
    | .shr => needx (decide (0 ≤ b)) (K (.int k (a.fdiv (2 ^ (min b.toNat k.bits)))))
    | op => needx (decide (k = k')) (intx op k a b K)
  | .flt k a, .flt k' b => needx (decide (k = k')) (floatx op k a b K)
  | .str a, .str b => strx op a b K
  | x, y => match op with
    | .eql => optx (eqAtom P t x y) fun b => K (.bool b)
    | .neq => optx (eqAtom P t x y) fun b => K (.bool !b)
    | _ => False
def binx (P : Program) (op : BinOp) (t : TypeId) (x y : V) (K : V → Prop) : Prop := match x, y with
  | .a x, .a y => binA P op t x y fun r => K (.a r)
  | .g xs, .g ys => needx (!P.eqGuardType P.depth t) (match op with
    | .eql => ∃ b, EqAgg P t xs ys b ∧ K (.a (.bool b))
    | .neq => ∃ b, EqAgg P t xs ys b ∧ K (.a (.bool !b))
    | _ => False)
  | _, _ => False
def unx (op : UnOp) (x : A) (K : A → Prop) : Prop := match op, x with
  | .not, .bool b => K (.bool !b)
  | .neg, .int k n => K (.int k (k.wrap (0 - n)))
  | .xor, .int k n => K (.int k (bitx .xor k (if k.signed then -1 else k.max) n))
  | .neg, .flt k b => K (.flt k (Op.negFloat k b))
  | _, _ => False
def byteAt (s : ByteArray) (i : Int) : Option UInt8 := if 0 ≤ i then s[i.toNat]? else none
def nanc (k : FloatKind) (b : Nat) (K : A → Prop) : Prop := ∀ t : Nat, K (.flt k ((Question.nanConv k b).cut t))
@[irreducible] def i32s (l : List Nat) : List A := l.map fun (n : Nat) => A.int .i32 (n : Int)
def runesGo (s : ByteArray) : Nat → Nat → List Nat
  | 0, _ => []
  | b + 1, i => if i < s.size then (Utf8.decode s i).1 :: runesGo s b (i + (Utf8.decode s i).2) else []
/-- The runes of a text. -/
@[irreducible] def runesL (s : ByteArray) : List Nat := runesGo s s.size 0
/-- The rune that begins at a place, and how many bytes it has. -/
@[irreducible] def runeAt (s : ByteArray) (i : Nat) : Nat := (Utf8.decode s i).1
@[irreducible] def runeW (s : ByteArray) (i : Nat) : Nat := (Utf8.decode s i).2
def convA (P : Program) (ro : Addr → A → Prop) (src dst : TypeId) (x : A) (H : Hp) (K : A → Hp → Prop) : Prop :=
  match P.underlying src, P.underlying dst, x with
  | some _, some (.int k), .int _ n => K (.int k (k.wrap n)) H
  | some _, some (.float k), .int _ n => K (.flt k (k.nearest n)) H
  | some _, some .string, .str s => K (.str s) H
  | some _, some .string, .int _ n => K (.str (Utf8.encode n)) H
  | some _, some (.slice e), .str s => match P.underlying e with
    | some (.int .u8) => ∀ cap : Nat, s.size ≤ cap → K (.slc H.length 0 s.size cap) (H ++ [.cells (u8s s.data.toList ++ List.replicate (cap - s.size) (.int .u8 0)) e true])
    | some (.int .i32) => ∀ cap : Nat, (runesL s).length ≤ cap → K (.slc H.length 0 (runesL s).length cap) (H ++ [.cells (i32s (runesL s) ++ List.replicate (cap - (runesL s).length) (.int .i32 0)) e false])
    | _ => False
  | some (.slice e), some .string, x => match P.underlying e with
    | some (.int .u8) => optx (lenA x) fun n => rowx ro H x n fun cs => optx (bytesOf cs) fun bs => K (.str ⟨bs.toArray⟩) H
    | _ => False
  | some _, some (.float k), .flt s b => needx (decide (s = k)) (K (.flt k b) H)
  | some _, some (.int k), .flt s b => optx (floatToIntVal s b k) fun n => K (.int k n) H
  | _, _, _ => False

def convStill (P : Program) (d : TypeId) : Bool := match P.underlying d with
  | some (.slice _) => false
  | _ => true

def loadx (P : Program) (ro : Addr → A → Prop) (H : Hp) (t : TypeId) (x : V) (K : V → Prop) : Prop := match x with
  | .a (.ptr i off) => match H[i]? with
    | some (.cells cs _ _) => match aggOf P t, P.info? t with
      | some false, _ => optx cs[off]? fun x => K (.a x)
      | some true, some q => needx (decide (off + q.size ≤ cs.length)) (K (.g ((cs.take (off + q.size)).drop off)))
      | _, _ => False
    | _ => False
  | .a (.rptr p) => match aggOf P t, P.info? t with
    | some false, _ => ∃ x, ro p x ∧ K (.a x)
    | some true, some q => ∃ xs : List A, xs.length = q.size ∧ (∀ j y, xs[j]? = some y → ro (p.add j) y) ∧ K (.g xs)
    | _, _ => False
  | _ => False
def storex (P : Program) (H : Hp) (t : TypeId) (x v : V) (K : Hp → Prop) : Prop := match x with
  | .a (.ptr i off) => match H[i]?, v.cells?, P.info? t with
    | some (.cells cs ty mk), some xs, some q => needx (xs.length == q.size && decide (off + xs.length ≤ cs.length)) (K (H.set i (.cells (storeL cs off xs) ty mk)))
    | _, _, _ => False
  | _ => False
def fieldx (P : Program) (t : TypeId) (x : V) (f : Nat) (K : A → Prop) : Prop := match P.underlying t with
  | some (.struct fs) => match fs[f]? with
    | some g => match P.info? g.type with
      | some q => needx (q.size != 0) (match x with
        | .a (.ptr i off) => K (.ptr i (off + g.offset))
        | .a (.rptr p) => K (.rptr (p.add g.offset))
        | _ => False)
      | none => False
    | none => False
  | _ => False
def idxAddrx (P : Program) (t : TypeId) (x : V) (i : Int) (K : A → Prop) : Prop := match P.underlying t with
  | some (.array n e) => match P.info? e with
    | some q => needx (decide (0 ≤ i ∧ i < n)) (match x with
      | .a (.ptr b off) => K (.ptr b (off + i.toNat * q.size))
      | .a (.rptr p) => K (.rptr (p.add (i.toNat * q.size)))
      | _ => False)
    | none => False
  | some (.slice e) => match P.info? e with
    | some q => match x with
      | .a (.slc b off n _) => needx (decide (0 ≤ i ∧ i < n)) (K (.ptr b (off + i.toNat * q.size)))
      | .a (.rslc p n _) => needx (decide (0 ≤ i ∧ i < n)) (K (.rptr (p.add (i.toNat * q.size))))
      | _ => False
    | none => False
  | _ => False
def indexx (P : Program) (t : TypeId) (x : V) (i : Int) (K : V → Prop) : Prop := match P.underlying t, x with
  | some (.array n e), .g cs => match P.info? e with
    | some q => needx (decide (0 ≤ i ∧ i < n)) (partx P e cs (i.toNat * q.size) K)
    | none => False
  | some .string, .a (.str s) => optx (byteAt s i) fun b => K (.a (.int .u8 b.toNat))
  | _, _ => False
/-- A bound of a slice expression. -/
def bndx (F : Frm) (x : Option Operand) (dflt y : Nat) (K : Nat → Prop) : Prop := match x with
  | none => K dflt
  | some x => match rho F x with
    | some (.a (.int _ i)) => needx (decide (0 ≤ i ∧ i ≤ y)) (K i.toNat)
    | _ => False
def slicex (P : Program) (F : Frm) (t : TypeId) (x : V) (lo hi mx : Option Operand) (K : A → Prop) : Prop :=
  match P.underlying t, x with
  | some .string, .a (.str s) => match mx with
    | none => bndx F hi s.size s.size fun h => bndx F lo 0 h fun l => K (.str (s.extract l h))
    | some _ => False
  | some (.slice e), .a (.slc b off n cap) => match P.info? e with
    | some q => bndx F mx cap cap fun m => bndx F hi n m fun h => needx (!(hi.isNone && mx.isSome)) (bndx F lo 0 h fun l => K (.slc b (if m = l then off else off + l * q.size) (h - l) (m - l)))
    | none => False
  | some (.slice e), .a (.rslc p n cap) => match P.info? e with
    | some q => bndx F mx cap cap fun m => bndx F hi n m fun h => needx (!(hi.isNone && mx.isSome)) (bndx F lo 0 h fun l => K (.rslc (if m = l then p else p.add (l * q.size)) (h - l) (m - l)))
    | none => False
  | some (.slice e), .a .nils => match P.info? e with
    | some q => bndx F mx 0 0 fun m => bndx F hi 0 m fun h => needx (!(hi.isNone && mx.isSome)) (bndx F lo 0 h fun l => needx (h == 0 && m == 0) (K .nils))
    | none => False
  | some (.array n e), .a (.ptr b off) => match P.info? e with
    | some q => bndx F mx n n fun m => bndx F hi n m fun h => needx (!(hi.isNone && mx.isSome)) (bndx F lo 0 h fun l => K (.slc b (if m = l then off else off + l * q.size) (h - l) (m - l)))
    | none => False
  | _, _ => False
/-- May so much be made? (Not to be worked out by 'whnf': great numerals.) -/
@[irreducible] def mkOK (l c : Int) (b : Nat) : Bool := decide (0 ≤ l ∧ l ≤ c ∧ c ≤ 9223372036854775807 ∧ (b : Int) * c ≤ 281474976710656)
theorem mkOK_of {l c : Int} {b : Nat} (h : 0 ≤ l ∧ l ≤ c ∧ c ≤ 9223372036854775807 ∧ (b : Int) * c ≤ 281474976710656) : mkOK l c b = true := by unfold mkOK; exact decide_eq_true h
def makex (P : Program) (t : TypeId) (l c : V) (H : Hp) (K : V → Hp → Prop) : Prop := match P.underlying t, l, c with
  | some (.slice e), .a (.int _ l), .a (.int _ c) => match P.info? e with
    | some q => needx (mkOK l c q.bytes) (match zeros P e with
      | some zs => needx (zs.length == q.size && q.size != 0) (K (.a (.slc H.length 0 l.toNat c.toNat)) (H ++ [.cells (repl zs (c.toNat * q.size)) e false]))
      | none => False)
    | none => False
  | _, _, _ => False
/-- What append and copy read. -/
def srcx (ro : Addr → A → Prop) (H : Hp) (x : A) (n size : Nat) (K : List A → Prop) : Prop := match x with
  | .str s => needx (size == 1) (K (u8s (s.data.toList.take n)))
  | x => rowx ro H x (n * size) K
def isIntD : TypeDesc → Bool
  | .int _ => true
  | _ => false
def appendx (P : Program) (ro : Addr → A → Prop) (ts : Array TypeId) (H : Hp) (x y : A) (K : V → Hp → Prop) : Prop :=
  match ts[0]?, ts[1]? with
  | some t, some u => match P.underlying t, P.underlying u with
    | some (.slice e), some d => needx (!isIntD d) (match P.info? e, zeros P e, lenA y with
      | some q, some zs, some m => needx (zs.length == q.size && q.size != 0 && q.bytes != 0) (srcx ro H y m q.size fun new => match x with
        | .nils => match m with
          | 0 => K (.a .nils) H
          | m + 1 => needx (decide ((m + 1) * q.bytes ≤ 140737488355328 ∧ m + 1 ≤ 9223372036854775807))
            (∀ cap : Nat, m + 1 ≤ cap → K (.a (.slc H.length 0 (m + 1) cap)) (H ++ [.cells (new ++ repl zs ((cap - (m + 1)) * q.size)) e false]))
        | .slc b off n cap => match H[b]? with
          | some (.cells cs ty mk) => condx (decide (n + m ≤ cap))
              (needx (decide (off + n * q.size + new.length ≤ cs.length)) (K (.a (.slc b off (n + m) cap)) (H.set b (.cells (storeL cs (off + n * q.size) new) ty mk))))
              (needx (decide (off + n * q.size ≤ cs.length ∧ (n + m) * q.bytes ≤ 140737488355328 ∧ n + m ≤ 9223372036854775807))
                (∀ cap' : Nat, n + m ≤ cap' → K (.a (.slc H.length 0 (n + m) cap')) (H ++ [.cells ((cs.take (off + n * q.size)).drop off ++ new ++ repl zs ((cap' - (n + m)) * q.size)) e false])))
          | _ => False
        | _ => False)
      | _, _, _ => False)
    | _, _ => False
  | _, _ => False
def copyx (P : Program) (ro : Addr → A → Prop) (ts : Array TypeId) (H : Hp) (x y : A) (K : V → Hp → Prop) : Prop :=
  match ts[0]? with
  | some t => match P.underlying t with
    | some (.slice e) => match P.info? e, lenA x, lenA y with
      | some q, some d, some m => srcx ro H y (Nat.min m d) q.size fun new => match x with
        | .nils => K (.a (.int .i64 (Nat.min m d : Nat))) H
        | .slc b off n cap => match H[b]? with
          | some (.cells cs ty mk) => needx (decide (off + new.length ≤ cs.length)) (K (.a (.int .i64 (Nat.min m d : Nat))) (H.set b (.cells (storeL cs off new) ty mk)))
          | _ => False
        | _ => False
      | _, _, _ => False
    | _ => False
  | none => False
def clearx (P : Program) (ts : Array TypeId) (H : Hp) (x : A) (K : V → Hp → Prop) : Prop :=
  match ts[0]? with
  | some t => match P.underlying t, x with
    | some (.slice e), .nils => K (.t []) H
    | some (.slice e), .slc b off n cap => match n with
      | 0 => K (.t []) H
      | n + 1 => match P.info? e, zeros P e, H[b]? with
        | some q, some zs, some (.cells cs ty mk) => needx (zs.length == q.size && q.size != 0 && decide (off + (n + 1) * q.size ≤ cs.length)) (K (.t []) (H.set b (.cells (storeL cs off (repl zs ((n + 1) * q.size))) ty mk)))
        | _, _, _ => False
    | _, _ => False
  | none => False
def lenx (P : Program) (ts : Array TypeId) (x : V) (K : V → Prop) : Prop :=
  match ts[0]? with
  | some t => match P.underlying t, x with
    | some .string, .a (.str s) => K (.a (.int .i64 s.size))
    | some (.array n _), _ => K (.a (.int .i64 n))
    | some (.slice _), .a x => match x with
      | .nils => K (.a (.int .i64 0))
      | .slc _ _ n _ => K (.a (.int .i64 n))
      | .rslc _ n _ => K (.a (.int .i64 n))
      | _ => False
    | some (.pointer a), _ => match P.underlying a with
      | some (.array n _) => K (.a (.int .i64 n))
      | _ => False
    | _, _ => False
  | none => False
def capx (P : Program) (ts : Array TypeId) (x : V) (K : V → Prop) : Prop :=
  match ts[0]? with
  | some t => match P.underlying t, x with
    | some (.slice _), .a x => match x with
      | .nils => K (.a (.int .i64 0))
      | .slc _ _ _ n => K (.a (.int .i64 n))
      | .rslc _ _ n => K (.a (.int .i64 n))
      | _ => False
    | _, _ => False
  | none => False
def builtx (P : Program) (ro : Addr → A → Prop) (b : Builtin) (ts : Array TypeId) (args : List V) (H : Hp) (K : V → Hp → Prop) : Prop :=
  match b, args with
  | .len, [x] => lenx P ts x fun v => K v H
  | .cap, [x] => capx P ts x fun v => K v H
  | .append, [.a x, .a y] => appendx P ro ts H x y K
  | .copy, [.a x, .a y] => copyx P ro ts H x y K
  | .clear, [.a x] => clearx P ts H x K
  | .max, [.a (.int k x), .a (.int k' y)] => K (.a (.int k (if y > x then y else x))) H
  | .min, [.a (.int k x), .a (.int k' y)] => K (.a (.int k (if y < x then y else x))) H
  | .max, [.a (.flt k x), .a (.flt k' y)] => fmmx k true x y fun r => K (.a (.flt k r)) H
  | .min, [.a (.flt k x), .a (.flt k' y)] => fmmx k false x y fun r => K (.a (.flt k r)) H
  | .complex, [.a (.flt k x), .a (.flt k' y)] => needx (decide (k = k')) (K (.a (.cpx k x y)) H)
  | .real, [.a (.cpx k x _)] => K (.a (.flt k x)) H
  | .imag, [.a (.cpx k _ y)] => K (.a (.flt k y)) H
  | .max, [.a (.str x), .a (.str y)] => condx (!Op.bytesLess x.data.toList y.data.toList) (K (.a (.str x)) H) (K (.a (.str y)) H)
  | _, _ => False

/-- A call by its contract: from any world that is as the local heap says, it returns, and the world is as the new heap says. -/
structure Fn (P : Program) (ro : Addr → A → Prop) (f : FuncId) (args : List V) (H : Hp) (K : V → Hp → Prop) : Prop where
  run : ∀ (β : Num) (w : World), (∀ v ∈ args, v.fit β H.length) →
    WSat { P := P, ro := ro, n0 := H.length, β0 := β, w0 := w, nt := 0 } β H w →
    Calls P f (args.map (V.val β)).toArray w fun e w' => ∃ v H' β', K v H' ∧ e = .returned (v.val β') ∧ v.fit β' H'.length ∧
      Mv { P := P, ro := ro, n0 := H.length, β0 := β, w0 := w, nt := 0 } β H w β' H' w'

/-- A function without a body: what the model's table says. -/
structure extx (P : Program) (fn : Func) (args : List V) (K : V → Prop) : Prop where
  run : (fn.name == "runtime.NumGoroutine") = false ∧ Extern.findNext fn = none ∧ ∃ e, Extern.find fn = some e ∧
    ∀ (β : Num) (w : World), ∃ r d, K r ∧ r.ok 0 ∧ (e (args.map (V.val β)).toArray).run P w = .ok (r.val β) { w with drawn := d }

def callx (P : Program) (ro : Addr → A → Prop) (F : Frm) (H : Hp) (c : Call) (K : V → Hp → Prop) : Prop :=
  match c.callee, rhos F c.args.toList with
  | .value f, some args => match rho F f with
    | some (.a (.clo f caps)) => match P.funcs[f]? with
      | some fn => match fn.body, caps with
        | some _, caps => needx (fn.name != "runtime.NumGoroutine") (Fn P ro f (args ++ caps.map fun q => .a (.ptr q.1 q.2)) H K)
        | none, [] => extx P fn args fun v => K v H
        | none, _ :: _ => False
      | none => False
    | _ => False
  | .builtin b, some args => builtx P ro b c.argTypes args H K
  | _, _ => False
def capsx (F : Frm) : List Operand → Option (List (Nat × Nat))
  | [] => some []
  | x :: l => match rho F x, capsx F l with
    | some (.a (.ptr i o)), some r => some ((i, o) :: r)
    | _, _ => none

def opx (P : Program) (ro : Addr → A → Prop) (F : Frm) (H : Hp) (o : Oper) (K : V → Hp → Prop) : Prop :=
  match o.op with
  | .move x => optx (rho F x) fun v => K v H
  | .assign x => optx (rho F x) fun v => K v H
  | .pick c a b => match rho F c with
    | some (.a (.bool t)) => condx t (optx (rho F a) fun v => K v H) (optx (rho F b) fun v => K v H)
    | _ => False
  | .alloc t => optx (zeros P t) fun cs => K (.a (.ptr H.length 0)) (H ++ [.cells cs t false])
  | .box t x => match rho F x with
    | some v => optx v.cells? fun cs => K (.a (.ptr H.length 0)) (H ++ [.cells cs t false])
    | none => False
  | .build t ps => match P.underlying t, zeros P t, partsx F ps.toList with
    | some (.struct fs), some zs, some l => match places P fs.toList with
      | some pl => fillx P (fun i => pl[i]?) zs l fun cs => K (.g cs) H
      | none => False
    | some (.array _ e), some zs, some l => match P.info? e with
      | some q => fillx P (fun i => some (i * q.size, q.size)) zs l fun cs => K (.g cs) H
      | none => False
    | _, _, _ => False
  | .buildSlice t n ps => match P.underlying t, partsx F ps.toList with
    | some (.slice e), some l => match P.info? e, zeros P e with
      | some q, some zs => needx (decide (n * q.size ≤ 16777216) && zs.length == q.size && q.size != 0)
        (fillx P (fun i => some (i * q.size, q.size)) (repl zs (n * q.size)) l fun cs => K (.a (.slc H.length 0 n n)) (H ++ [.cells cs e false]))
      | _, _ => False
    | _, _ => False
  | .load t x => optx (rho F x) fun v => loadx P ro H t v fun r => K r H
  | .store t x y => match rho F x, rho F y with
    | some p, some v => storex P H t p v fun H' => K (.t []) H'
    | _, _ => False
  | .nilCheck x => match rho F x with
    | some (.a (.ptr i off)) => K (.a (.ptr i off)) H
    | some (.a (.rptr p)) => K (.a (.rptr p)) H
    | _ => False
  | .binOp op t x y _ => match rho F x, rho F y with
    | some a, some b => binx P op t a b fun r => K r H
    | _, _ => False
  | .unOp op _ x => match rho F x with
    | some (.a x) => unx op x fun r => K (.a r) H
    | _ => False
  | .convert s d x => match rho F x with
    | some (.a x) => convA P ro s d x H fun r H' => K (.a r) H'
    | _ => False
  | .sliceToArrayPointer t x => match P.underlying t, rho F x with
    | some (.array n _), some (.a (.slc b off l _)) => needx (decide (n ≤ l) && Nat.ble 1 n) (K (.a (.ptr b off)) H)
    | some (.array n _), some (.a (.rslc p l _)) => needx (decide (n ≤ l)) (K (.a (.rptr p)) H)
    | _, _ => False
  | .makeFunc (.func f) first caps => match first.toList, capsx F caps.toList with
    | [], some l => K (.a (.clo f l)) H
    | _, _ => False
  | .makeSlice t l c => match rho F l, rho F c with
    | some l, some c => makex P t l c H K
    | _, _ => False
  | .slice t x lo hi mx => optx (rho F x) fun v => slicex P F t v lo hi mx fun r => K (.a r) H
  | .fieldAddr t x f => optx (rho F x) fun v => fieldx P t v f fun r => K (.a r) H
  | .field t x f => match rho F x, P.underlying t with
    | some (.g cs), some (.struct fs) => match fs[f]? with
      | some g => partx P g.type cs g.offset fun r => K r H
      | none => False
    | _, _ => False
  | .indexAddr t x i => match rho F x, rho F i with
    | some v, some (.a (.int _ i)) => idxAddrx P t v i fun r => K (.a r) H
    | _, _ => False
  | .index t x i => match rho F x, rho F i with
    | some v, some (.a (.int _ i)) => indexx P t v i fun r => K r H
    | _, _ => False
  | .extract x i => match rho F x with
    | some (.t xs) => optx xs[i]? fun e => K e.toV H
    | _ => False
  | .call c => callx P ro F H c K
  | .range t x => match P.underlying t, rho F x with
    | some .string, some (.a (.str s)) => K (.a (.ptr H.length 0)) (H ++ [.iter s 0])
    | _, _ => False
  | .next x true => match rho F x with
    | some (.a (.ptr i 0)) => match H[i]? with
      | some (.iter s pos) => condx (decide (pos < s.size))
          (K (.t [.a (.bool true), .a (.int .i64 (pos : Int)), .a (.int .i32 (runeAt s pos : Nat))]) (H.set i (.iter s (pos + runeW s pos))))
          (K (.t [.a (.bool false)]) H)
      | _ => False
    | _ => False
  | _ => False
end Go.Eng
/- The engine, part 2: what part 1 says of an operation is what the model does. -/
set_option linter.unusedVariables false
namespace Go.Eng

/-- An operation is carried out as K asks. -/
def OpOK (c : Ctx) (o : Oper) (F : Frm) (H : Hp) (K : V → Hp → Prop) : Prop :=
  ∀ β a w, WSat c β H w → FSat c β F H a → ∀ (next : Act → World → Prop) (Q : Exit → Act → World → Prop),
    (∀ v H' β' w', K v H' → v.fit β' H'.length → Mv c β H w β' H' w' → next (a.put o.dst (v.val β')) w') → o.wp c.P a w next Q

section small
theorem V.val_a (β : Num) (x : A) : V.val β (.a x) = x.val β := rfl
theorem A.val_ptr (β : Num) (i o : Nat) : A.val β (.ptr i o) = .pointer (adr β i o) := rfl
theorem A.val_slc (β : Num) (i o l k : Nat) : A.val β (.slc i o l k) = .slice (adr β i o) l k := rfl
theorem adr_some {β : Num} {i b : Nat} (h : β i = some b) (o : Nat) : adr β i o = some ⟨b, o, none⟩ := by unfold adr; rw [h]
theorem adr_none {β : Num} {i : Nat} (h : β i = none) (o : Nat) : adr β i o = none := by unfold adr; rw [h]
theorem adr_get {β : Num} {i : Nat} (h : β i ≠ none) (o : Nat) : ∃ b, β i = some b ∧ adr β i o = some ⟨b, o, none⟩ := by
  cases e : β i with
  | none => exact absurd e h
  | some b => exact ⟨b, rfl, adr_some e o⟩
theorem add_none (b off n : Nat) : (Addr.add ⟨b, off, none⟩ n) = ⟨b, off + n, none⟩ := by
  unfold Addr.add
  by_cases h : n = 0
  · simp [h]
  · simp [h]
theorem add_add (p : Addr) (hp : p.spot = none) (n m : Nat) : (p.add n).add m = p.add (n + m) := by
  obtain ⟨b, o, s⟩ := p
  simp only at hp
  subst hp
  simp only [add_none, Nat.add_assoc]
theorem ofVal_sound {β : Num} : ∀ {v : Value} {x : A}, A.ofVal v = some x → x.val β = v ∧ x.ok 0 := by
  intro v x h
  unfold A.ofVal at h
  split at h <;> simp only [Option.some.injEq, reduceCtorEq] at h <;> subst h <;> exact ⟨rfl, trivial⟩
theorem ofVals_sound {β : Num} : ∀ {l : List Value} {xs : List A}, ofVals l = some xs → xs.map (A.val β) = l ∧ ∀ x ∈ xs, x.ok 0
  | [], xs, h => by simp only [ofVals, Option.some.injEq] at h; subst h; simp
  | v :: l, xs, h => by
    simp only [ofVals] at h
    split at h
    · rename_i x ys h1 h2
      simp only [Option.some.injEq] at h
      subst h
      obtain ⟨e1, o1⟩ := ofVal_sound (β := β) h1
      obtain ⟨e2, o2⟩ := ofVals_sound (β := β) h2
      exact ⟨by simp [e1, e2], by simpa using ⟨o1, o2⟩⟩
    · cases h
theorem V.ofVal_sound {β : Num} {v : Value} {x : V} (h : V.ofVal v = some x) : x.val β = v ∧ x.ok 0 := by
  unfold V.ofVal at h
  split at h
  · split at h
    · rename_i cs _ xs h1
      simp only [Option.some.injEq] at h
      subst h
      obtain ⟨e, o⟩ := ofVals_sound (β := β) h1
      exact ⟨by simp [V.val, e], o⟩
    · cases h
  · split at h
    · rename_i x' h1
      simp only [Option.some.injEq] at h
      subst h
      exact Eng.ofVal_sound h1
    · cases h
end small

section opers
variable {c : Ctx} {o : Oper} {β : Num} {F : Frm} {H : Hp} {a : Act} {w : World}

theorem rho_sound (hF : FSat c β F H a) {x : Operand} {v : V} (h : rho F x = some v) : a.eval x = v.val β ∧ v.fit β H.length := by
  cases x with
  | tmp t =>
    have := hF.slot t v h
    exact ⟨by simp [Act.eval, this], hF.ok t v h⟩
  | const u =>
    obtain ⟨e, ok⟩ := V.ofVal_sound (β := β) h
    exact ⟨e.symm, V.fit_of0 ok⟩
  | global g =>
    simp only [rho, Option.some.injEq] at h
    subst h
    exact ⟨rfl, trivial, trivial⟩
  | func f =>
    simp only [rho, Option.some.injEq] at h
    subst h
    exact ⟨rfl, fun q hq => (by cases hq), fun q hq => (by cases hq)⟩
theorem rhos_sound (hF : FSat c β F H a) : ∀ {l : List Operand} {vs : List V}, rhos F l = some vs → l.map a.eval = vs.map (V.val β) ∧ ∀ v ∈ vs, v.fit β H.length
  | [], vs, h => by simp only [rhos, Option.some.injEq] at h; subst h; simp
  | x :: l, vs, h => by
    simp only [rhos] at h
    split at h
    · rename_i v us h1 h2
      simp only [Option.some.injEq] at h
      subst h
      obtain ⟨e1, o1⟩ := rho_sound hF h1
      obtain ⟨e2, o2⟩ := rhos_sound hF h2
      exact ⟨by simp [e1, e2], by simpa using ⟨o1, o2⟩⟩
    · cases h

/-- An operation that yields ONE value and leaves the world alone, wherever the local heap is as it is. -/
def Still (c : Ctx) (o : Oper) (F : Frm) (H : Hp) (K : V → Hp → Prop) : Prop :=
  ∃ v, K v H ∧ ∀ β a w, WSat c β H w → FSat c β F H a → v.fit β H.length ∧ (execOp a.eval o).run c.P w = .ok (.value (v.val β)) w
/-- The same, whatever the world is. -/
def Pure (c : Ctx) (o : Oper) (F : Frm) (H : Hp) (K : V → Hp → Prop) : Prop :=
  ∃ v, K v H ∧ ∀ β a w, FSat c β F H a → v.fit β H.length ∧ (execOp a.eval o).run c.P w = .ok (.value (v.val β)) w
theorem Pure.still {K : V → Hp → Prop} (h : Pure c o F H K) : Still c o F H K := by
  obtain ⟨v, hk, h⟩ := h
  exact ⟨v, hk, fun β a w _ hf => h β a w hf⟩
theorem Still.ok {K : V → Hp → Prop} (h : Still c o F H K) : OpOK c o F H K := by
  intro β a w hw hf next Q hn
  obtain ⟨v, hk, h⟩ := h
  obtain ⟨hv, hr⟩ := h β a w hw hf
  simp only [Oper.wp, hr, Oper.upon]
  exact hn v H β w hk hv (Mv.refl hw)

variable {K : V → Hp → Prop}
theorem op_move {x : Operand} (ho : o.op = .move x ∨ o.op = .assign x) (h : optx (rho F x) fun v => K v H) : Pure c o F H K := by
  obtain ⟨v, hv, hk⟩ := optx_elim h
  refine ⟨v, hk, fun β a w hf => ⟨(rho_sound hf hv).2, ?_⟩⟩
  rcases ho with ho | ho <;> simp [execOp, ho, (rho_sound hf hv).1]
theorem op_pick {x y z : Operand} (ho : o.op = .pick x y z) {t : Bool} (hx : rho F x = some (.a (.bool t)))
    (h : condx t (optx (rho F y) fun v => K v H) (optx (rho F z) fun v => K v H)) : Pure c o F H K := by
  rcases condx_elim h with ⟨ht, h⟩ | ⟨ht, h⟩ <;> subst ht <;> obtain ⟨v, hv, hk⟩ := optx_elim h <;>
    refine ⟨v, hk, fun β a w hf => ⟨(rho_sound hf hv).2, ?_⟩⟩ <;>
    have hx' := (rho_sound hf hx).1 <;> simp [execOp, ho, (rho_sound hf hv).1, hx', V.val, A.val, asBool]

/-- A new block. -/
theorem OpOK.new {cs : List A} {ty : TypeId} {v : V} (hk : K v (H ++ [.cells cs ty false])) (h : ∀ β a w, WSat c β H w → FSat c β F H a → (∀ x ∈ cs, x.fit β H.length) ∧ v.fit (fun i => if i = H.length then some w.heap.size else β i) (H.length + 1) ∧
    (execOp a.eval o).run c.P w = .ok (.value (v.val fun i => if i = H.length then some w.heap.size else β i)) (w.alloc (.cells (cs.map (A.val β)).toArray ty))) : OpOK c o F H K := by
  intro β a w hw hf next Q hn
  obtain ⟨hok, hv, hr⟩ := h β a w hw hf
  simp only [Oper.wp, hr, Oper.upon]
  exact hn v _ _ _ hk (by simpa using hv) (hw.alloc (.cells cs ty false) (Ob.fit_cells hok))

theorem zeros_sound {P : Program} {t : TypeId} {cs : List A} (h : zeros P t = some cs) : ∃ i v, P.info? t = some i ∧ i.zero = some v ∧ (∀ β : Num, v.cells = (cs.map (A.val β)).toArray) ∧ ∀ x ∈ cs, x.ok 0 := by
  unfold zeros at h
  split at h
  · rename_i i hi
    split at h
    · rename_i v hv
      exact ⟨i, v, hi, hv, fun β => by rw [(ofVals_sound (β := β) h).1], (ofVals_sound (β := fun _ => none) h).2⟩
    · cases h
  · cases h

theorem fit_new {β : Num} {n b o : Nat} : (V.a (.ptr n o)).fit (fun i => if i = n then some b else β i) (n + 1) := ⟨Nat.lt_succ_self _, by simp [V.gh, A.gh]⟩
theorem val_new {β : Num} {n b o : Nat} : (A.ptr n o).val (fun i => if i = n then some b else β i) = .pointer (some ⟨b, o, none⟩) := by simp [A.val, adr]
theorem op_alloc {t : TypeId} (ho : o.op = .alloc t) (h : optx (zeros c.P t) fun cs => K (.a (.ptr H.length 0)) (H ++ [.cells cs t false])) : OpOK c o F H K := by
  obtain ⟨cs, hz, hk⟩ := optx_elim h
  obtain ⟨i, v, hi, hv, hc, hok⟩ := zeros_sound hz
  refine .new hk fun β a w hw hf => ⟨fun x hx => A.fit_of0 (hok x hx), fit_new, ?_⟩
  simp [execOp, ho, Instr.alloc, zeroValue, typeInfo, hi, hv, newVar, newRow, hc β, V.val, val_new]
theorem op_box {t : TypeId} {x : Operand} {v : V} (ho : o.op = .box t x) (hx : rho F x = some v) (h : optx v.cells? fun cs => K (.a (.ptr H.length 0)) (H ++ [.cells cs t false])) : OpOK c o F H K := by
  obtain ⟨cs, hz, hk⟩ := optx_elim h
  refine .new hk fun β a w hw hf => ⟨V.cells_fit hz (rho_sound hf hx).2, fit_new, ?_⟩
  have hx' := (rho_sound hf hx).1
  simp [execOp, ho, Instr.box, newVar, newRow, hx', V.val_cells hz, val_new, V.val_a]

theorem aggOf_sound {P : Program} {t : TypeId} {b : Bool} (h : aggOf P t = some b) (w : World) : (isAgg t).run P w = .ok b w := by
  unfold aggOf at h
  split at h <;> simp only [Option.some.injEq, reduceCtorEq] at h <;> subst h <;> rename_i hu <;> simp [isAgg, underlying, hu]

theorem run_loadCells {P : Program} {w : World} (xs : List Value) : ∀ (p : Addr) (i : Nat) (acc : Array Value), (∀ j v, xs[j]? = some v → w.cell? (p.add (i + j)) = some v) →
    (loadCellsFrom p i xs.length acc).run P w = .ok (acc ++ xs.toArray) w := by
  induction xs with
  | nil => intro p i acc _; simp [loadCellsFrom]
  | cons x xs ih =>
    intro p i acc h
    have h0 := h 0 x (by simp)
    simp only [Nat.add_zero] at h0
    simp only [List.length_cons, loadCellsFrom, Sem.run_bind, run_load, h0, Result.andThen_ok]
    rw [ih p (i + 1) (acc.push x) (fun j v hj => by have := h (j + 1) v (by simpa using hj); rwa [show i + (j + 1) = i + 1 + j by omega] at this)]
    simp
theorem getElem_slice {cs : List A} {off n j : Nat} {x : A} (h : ((cs.take (off + n)).drop off)[j]? = some x) : cs[off + j]? = some x := by
  rw [List.getElem?_drop] at h
  rw [List.getElem?_take] at h
  split at h
  · exact h
  · cases h
theorem length_slice {cs : List A} {off n : Nat} (h : off + n ≤ cs.length) : ((cs.take (off + n)).drop off).length = n := by
  simp; omega
theorem ok_slice {cs : List A} {p : A → Prop} {off n : Nat} (h : ∀ x ∈ cs, p x) : ∀ x ∈ (cs.take (off + n)).drop off, p x :=
  fun x hx => h x (List.mem_of_mem_take (List.mem_of_mem_drop hx))
theorem WSat.ok_cells (h : WSat c β H w) {i : Nat} {cs : List A} {ty : TypeId} {mk : Bool} (hb : H[i]? = some (.cells cs ty mk)) : ∀ x ∈ cs, x.fit β H.length := Ob.cells_fit (h.ok i _ hb)
theorem getElem?_mem_ok {cs : List A} {p : A → Prop} {j : Nat} {x : A} (h : cs[j]? = some x) (hc : ∀ x ∈ cs, p x) : p x := hc x (List.mem_of_getElem? h)
theorem run_loadVar_one {P : Program} {w : World} {t : TypeId} {p : Addr} {v : Value} (ht : aggOf P t = some false) (hc : w.cell? p = some v) : (loadVar t p).run P w = .ok v w := by
  simp [loadVar, aggOf_sound ht, hc]
theorem run_loadVar_agg {P : Program} {w : World} {t : TypeId} {p : Addr} {q : TypeInfo} {xs : List Value} (ht : aggOf P t = some true) (hq : P.info? t = some q) (hl : xs.length = q.size)
    (hc : ∀ j v, xs[j]? = some v → w.cell? (p.add j) = some v) : (loadVar t p).run P w = .ok (.agg xs.toArray) w := by
  have := run_loadCells (P := P) (w := w) xs p 0 #[] (fun j v hj => by rw [Nat.zero_add]; exact hc j v hj)
  rw [hl] at this
  simp [loadVar, aggOf_sound ht, sizeOf, typeInfo, hq, loadCells, this]

theorem loadx_sound {t : TypeId} {x : V} {K : V → Prop} (h : loadx c.P c.ro H t x K) :
    ∃ v, K v ∧ ∀ β w, WSat c β H w → x.gh β → v.fit β H.length ∧ ∃ p, x.val β = .pointer (some p) ∧ (loadVar t p).run c.P w = .ok (v.val β) w := by
  unfold loadx at h
  split at h
  · rename_i i off
    split at h
    · rename_i cs ty mk hb
      split at h
      · rename_i ht
        obtain ⟨x, hx, hk⟩ := optx_elim h
        refine ⟨_, hk, fun β w hw hg => ?_⟩
        obtain ⟨b, eb, ea⟩ := adr_get hg off
        exact ⟨getElem?_mem_ok hx (hw.ok_cells hb), _, congrArg _ ea, run_loadVar_one ht (hw.cell hb eb hx)⟩
      · rename_i q ht hq
        obtain ⟨hl, hk⟩ := needx_elim h
        have hl' : off + q.size ≤ cs.length := of_decide_eq_true hl
        refine ⟨_, hk, fun β w hw hg => ?_⟩
        obtain ⟨b, eb, ea⟩ := adr_get hg off
        refine ⟨V.fit_g (ok_slice (hw.ok_cells hb)), _, congrArg _ ea, ?_⟩
        refine run_loadVar_agg (xs := ((cs.take (off + q.size)).drop off).map (A.val β)) ht hq (by rw [List.length_map]; exact length_slice hl') (fun j v hj => ?_)
        rw [List.getElem?_map] at hj
        obtain ⟨x, hx, rfl⟩ := Option.map_eq_some_iff.1 hj
        rw [add_none]
        exact hw.cell hb eb (getElem_slice hx)
      · exact h.elim
    · exact h.elim
  · rename_i p
    split at h
    · rename_i ht
      obtain ⟨x, hx, hk⟩ := h
      exact ⟨_, hk, fun β w hw _ => ⟨A.fit_of0 (hw.ro.ext p x hx), _, rfl, run_loadVar_one ht (hw.rcell hx)⟩⟩
    · rename_i q ht hq
      obtain ⟨xs, hl, hx, hk⟩ := h
      refine ⟨_, hk, fun β w hw _ => ⟨V.fit_g fun y hy => ?_, _, rfl, ?_⟩⟩
      · obtain ⟨j, hj⟩ := List.getElem?_of_mem hy
        exact A.fit_of0 (hw.ro.ext _ y (hx j y hj))
      · refine run_loadVar_agg (xs := xs.map (A.val β)) ht hq (by rw [List.length_map]; exact hl) (fun j v hj => ?_)
        rw [List.getElem?_map] at hj
        obtain ⟨x, hx', rfl⟩ := Option.map_eq_some_iff.1 hj
        exact hw.rcell (hx j x hx')
    · exact h.elim
  · exact h.elim
theorem op_load {t : TypeId} {x : Operand} (ho : o.op = .load t x) (h : optx (rho F x) fun v => loadx c.P c.ro H t v fun r => K r H) : Still c o F H K := by
  obtain ⟨v, hv, h⟩ := optx_elim h
  obtain ⟨r, hk, h⟩ := loadx_sound h
  refine ⟨r, hk, fun β a w hw hf => ?_⟩
  obtain ⟨hr, p, hp, hrun⟩ := h β w hw (rho_sound hf hv).2.2
  refine ⟨hr, ?_⟩
  have hx := (rho_sound hf hv).1
  simp [execOp, ho, Instr.loadAt, Instr.sureAddr, hx, hp, hrun]

theorem storeL_length : ∀ (xs : List A) (cs : List A) (o : Nat), (storeL cs o xs).length = cs.length
  | [], _, _ => rfl
  | x :: xs, cs, o => by simp [storeL, storeL_length xs]
theorem storeL_ok {p : A → Prop} : ∀ (xs : List A) (cs : List A) (o : Nat), (∀ x ∈ cs, p x) → (∀ x ∈ xs, p x) → ∀ x ∈ storeL cs o xs, p x
  | [], _, _, h, _ => h
  | x :: xs, cs, o, h, h' => storeL_ok xs (cs.set o x) (o + 1) (fun y hy => by
      rcases List.mem_or_eq_of_mem_set hy with hy | rfl
      · exact h y hy
      · exact h' y (by simp)) (fun y hy => h' y (by simp [hy]))
/-- Cells are stored one behind the other. -/
theorem run_storeCells {P : Program} {b off : Nat} {ty : TypeId} {mk : Bool} (xs : List A) : ∀ (w : World) (cs : List A) (i : Nat),
    w.heap[b]? = some (.cells (cs.map (A.val β)).toArray ty (fz mk cs.length)) → off + i + xs.length ≤ cs.length →
    ∃ w', (storeCells ⟨b, off, none⟩ (xs.map (A.val β)) i).run P w = .ok () w' ∧ (w'.os = w.os ∧ w'.tape = w.tape ∧ w'.output = w.output) ∧ w'.heap.size = w.heap.size ∧
      w'.heap[b]? = some (.cells ((storeL cs (off + i) xs).map (A.val β)).toArray ty (fz mk cs.length)) ∧ ∀ k, k ≠ b → w'.heap[k]? = w.heap[k]? := by
  induction xs with
  | nil => intro w cs i hb _; exact ⟨w, rfl, ⟨rfl, rfl, rfl⟩, rfl, hb, fun _ _ => rfl⟩
  | cons x xs ih =>
    intro w cs i hb hl
    simp only [List.length_cons] at hl
    have hlt : off + i < cs.length := by omega
    have hc : w.cell? ⟨b, off + i, none⟩ = some (cs[off + i].val β) := by simp [World.cell?, hb, hlt]
    have hf : w.frozen? ⟨b, off + i, none⟩ = false := by
      simp only [World.frozen?, hb, fz]
      cases mk <;> simp
      omega
    have hb' : (w.setCell ⟨b, off + i, none⟩ (x.val β)).heap[b]? = some (.cells ((cs.set (off + i) x).map (A.val β)).toArray ty (fz mk (cs.set (off + i) x).length)) := by
      simp only [World.setCell]
      rw [Array.getElem?_modify, if_pos rfl, hb]
      simp [List.map_set]
    obtain ⟨w', hr, ho, hs, hbb, hk⟩ := ih (w.setCell ⟨b, off + i, none⟩ (x.val β)) (cs.set (off + i) x) (i + 1) hb' (by simp; omega)
    refine ⟨w', ?_, ho, by rw [hs]; simp, ?_, fun k hk' => ?_⟩
    · simp only [List.map_cons, storeCells, Sem.run_bind, add_none]
      rw [run_store _ _ _ _ _ (A.val_one β x), hc]
      simp only [hf, Bool.false_eq_true, if_false, Result.andThen_ok]
      exact hr
    · simpa [storeL, Nat.add_assoc] using hbb
    · rw [hk k hk']
      simp only [World.setCell]
      rw [Array.getElem?_modify, if_neg (fun e => hk' e.symm)]

theorem storex_sound (hw : WSat c β H w) {t : TypeId} {x v : V} (hg : x.gh β) (hv : v.fit β H.length) {K : Hp → Prop} (h : storex c.P H t x v K) :
    ∃ p H' w', x.val β = .pointer (some p) ∧ K H' ∧ (storeVar t p (v.val β)).run c.P w = .ok () w' ∧ Mv c β H w β H' w' := by
  unfold storex at h
  split at h
  · rename_i i off
    split at h
    · rename_i cs ty mk xs q hb hx hq
      obtain ⟨hl, hk⟩ := needx_elim h
      simp only [Bool.and_eq_true, beq_iff_eq, decide_eq_true_eq] at hl
      have hi := hw.lenOf hb
      obtain ⟨b, eb, ea⟩ := adr_get hg off
      obtain ⟨w', hr, ho, hs, hbb, hkk⟩ := run_storeCells (P := c.P) (off := off) xs w cs 0 (by simpa [Ob.obj] using hw.blk i b _ hb eb) (by omega)
      refine ⟨_, _, w', congrArg _ ea, hk, ?_, hw.setBlk hi (.cells (storeL cs off xs) ty mk) (Ob.fit_cells (storeL_ok _ _ _ (hw.ok_cells hb) (V.cells_fit hx hv))) (fun e => by rw [eb] at e; cases e) ho hs (fun b' eb' => ?_) (fun k hk' => hkk k fun e => hk' (by rw [eb, e]))⟩
      · have hsz : (v.val β).cells = (xs.map (A.val β)).toArray := V.val_cells hx
        simp [storeVar, sizeOf, typeInfo, hq, hsz, hl.1, hr]
      · rw [eb] at eb'; injection eb' with eb'; subst eb'; simpa [Ob.obj, storeL_length] using hbb
    · exact h.elim
  · exact h.elim
theorem op_store {t : TypeId} {x y : Operand} {p v : V} (ho : o.op = .store t x y) (hx : rho F x = some p) (hy : rho F y = some v) (h : storex c.P H t p v fun H' => K (.t []) H') : OpOK c o F H K := by
  intro β a w hw hf next Q hn
  obtain ⟨hx', _, hg⟩ := rho_sound hf hx
  obtain ⟨hy', hv⟩ := rho_sound hf hy
  obtain ⟨p', H', w', hp, hk, hr, hm⟩ := storex_sound hw hg hv h
  have hrun : (execOp a.eval o).run c.P w = .ok .skip w' := by simp [execOp, ho, Instr.storeAt, Instr.sureAddr, hx', hy', hp, hr]
  simp only [Oper.wp, hrun, Oper.upon]
  exact hn (.t []) H' β w' hk (V.fit_t fun x hx => by cases hx) hm
end opers
end Go.Eng
/- The engine, part 3: addresses, parts, numbers. -/
set_option linter.unusedVariables false
namespace Go.Eng
section opers
variable {c : Ctx} {o : Oper} {β : Num} {F : Frm} {H : Hp} {a : Act} {w : World} {K : V → Hp → Prop}

theorem op_nilCheck_ptr {x : Operand} {i off : Nat} (ho : o.op = .nilCheck x) (hx : rho F x = some (.a (.ptr i off))) (h : K (.a (.ptr i off)) H) : Pure c o F H K := by
  refine ⟨_, h, fun β a w hf => ⟨(rho_sound hf hx).2, ?_⟩⟩
  have hx' := (rho_sound hf hx).1
  obtain ⟨b, _, ea⟩ := adr_get (rho_sound hf hx).2.2 off
  simp [execOp, ho, hx', V.val_a, A.val_ptr, ea]
theorem op_nilCheck_rptr {x : Operand} {p : Addr} (ho : o.op = .nilCheck x) (hx : rho F x = some (.a (.rptr p))) (h : K (.a (.rptr p)) H) : Pure c o F H K := by
  refine ⟨_, h, fun β a w hf => ⟨(rho_sound hf hx).2, ?_⟩⟩
  have hx' := (rho_sound hf hx).1
  simp [execOp, ho, hx', V.val_a, A.val]

theorem op_field {t : TypeId} {x : Operand} {f : Nat} (ho : o.op = .fieldAddr t x f) (h : optx (rho F x) fun v => fieldx c.P t v f fun r => K (.a r) H) : Pure c o F H K := by
  obtain ⟨v, hv, h⟩ := optx_elim h
  unfold fieldx at h
  split at h
  · rename_i fs hu
    split at h
    · rename_i g hg
      split at h
      · rename_i q hq
        obtain ⟨hn, h⟩ := needx_elim h
        have hn' : q.size ≠ 0 := by simpa using hn
        split at h
        · rename_i i off
          refine ⟨_, h, fun β a w hf => ⟨(rho_sound hf hv).2, ?_⟩⟩
          have hx' := (rho_sound hf hv).1
          obtain ⟨b, eb, ea⟩ := adr_get (rho_sound hf hv).2.2 0
          simp [execOp, ho, Instr.fieldAt, underlying, hu, hg, Instr.sureAddr, hx', V.val_a, A.val_ptr, adr_some eb, fieldPlace, sizeOf, typeInfo, hq, hn', add_none]
        · rename_i p
          refine ⟨_, h, fun β a w hf => ⟨(rho_sound hf hv).2, ?_⟩⟩
          have hx' := (rho_sound hf hv).1
          simp [execOp, ho, Instr.fieldAt, underlying, hu, hg, Instr.sureAddr, hx', V.val_a, A.val, fieldPlace, sizeOf, typeInfo, hq, hn']
        · exact h.elim
      · exact h.elim
    · exact h.elim
  · exact h.elim

theorem partx_sound {P : Program} {t : TypeId} {cs : List A} {off : Nat} {K : V → Prop} (h : partx P t cs off K) :
    ∃ v, K v ∧ ∀ (β : Num) n, (∀ x ∈ cs, x.fit β n) → v.fit β n ∧ ∀ (w : World), (part t (cs.map (A.val β)).toArray off).run P w = .ok (v.val β) w := by
  unfold partx at h
  split at h
  · rename_i ht
    obtain ⟨x, hx, hk⟩ := optx_elim h
    refine ⟨_, hk, fun β n hok => ⟨getElem?_mem_ok hx hok, fun w => ?_⟩⟩
    simp [part, aggOf_sound ht, hx, V.val_a]
  · rename_i q ht hq
    refine ⟨_, h, fun β n hok => ⟨V.fit_g (ok_slice hok), fun w => ?_⟩⟩
    simp [part, aggOf_sound ht, sizeOf, typeInfo, hq, V.val, List.map_take, List.map_drop, List.drop_take]
  · exact h.elim
theorem op_fieldOf {t : TypeId} {x : Operand} {f : Nat} {cs : List A} {fs : Array Field} {g : Field} (ho : o.op = .field t x f) (hx : rho F x = some (.g cs)) (hu : c.P.underlying t = some (.struct fs)) (hg : fs[f]? = some g)
    (h : partx c.P g.type cs g.offset fun r => K r H) : Pure c o F H K := by
  obtain ⟨v, hk, h⟩ := partx_sound h
  refine ⟨v, hk, fun β a w hf => ?_⟩
  obtain ⟨hx', hok⟩ := rho_sound hf hx
  obtain ⟨hv, hr⟩ := h β _ (fun x hx => ⟨hok.1 x hx, hok.2 x hx⟩)
  exact ⟨hv, by simp [execOp, ho, Instr.field, underlying, hu, hg, asAgg, hx', V.val, hr w]⟩

theorem op_indexAddr {t : TypeId} {x i : Operand} {v : V} {k : IntKind} {n : Int} (ho : o.op = .indexAddr t x i) (hx : rho F x = some v) (hi : rho F i = some (.a (.int k n)))
    (h : idxAddrx c.P t v n fun r => K (.a r) H) : Pure c o F H K := by
  unfold idxAddrx at h
  split at h
  · rename_i m e hu
    split at h
    · rename_i q hq
      obtain ⟨hb, h⟩ := needx_elim h
      have hb' := of_decide_eq_true hb
      split at h
      · refine ⟨_, h, fun β a w hf => ⟨(rho_sound hf hx).2, ?_⟩⟩
        have hx' := (rho_sound hf hx).1
        have hi' := (rho_sound hf hi).1
        obtain ⟨b, eb, ea⟩ := adr_get (rho_sound hf hx).2.2 0
        simp [execOp, ho, Instr.indexAt, asIntOf, underlying, hu, hx', hi', V.val_a, A.val, adr_some eb, Instr.sureAddr, hb', sizeOf, typeInfo, hq, add_none]
      · refine ⟨_, h, fun β a w hf => ⟨⟨trivial, trivial⟩, ?_⟩⟩
        have hx' := (rho_sound hf hx).1
        have hi' := (rho_sound hf hi).1
        simp [execOp, ho, Instr.indexAt, asIntOf, underlying, hu, hx', hi', V.val_a, A.val, Instr.sureAddr, hb', sizeOf, typeInfo, hq]
      · exact h.elim
    · exact h.elim
  · rename_i e hu
    split at h
    · rename_i q hq
      split at h
      · obtain ⟨hb, h⟩ := needx_elim h
        have hb' := of_decide_eq_true hb
        refine ⟨_, h, fun β a w hf => ?_⟩
        obtain ⟨hx', hok⟩ := rho_sound hf hx
        have hi' := (rho_sound hf hi).1
        have hne : β _ ≠ none := fun e => by have := (hok.2 e).1; omega
        obtain ⟨b, eb, ea⟩ := adr_get hne 0
        refine ⟨⟨hok.1, hne⟩, ?_⟩
        simp [execOp, ho, Instr.indexAt, asIntOf, underlying, hu, hx', hi', V.val_a, A.val, adr_some eb, Instr.sureAddr, hb', sizeOf, typeInfo, hq, add_none]
      · obtain ⟨hb, h⟩ := needx_elim h
        have hb' := of_decide_eq_true hb
        refine ⟨_, h, fun β a w hf => ⟨⟨trivial, trivial⟩, ?_⟩⟩
        have hx' := (rho_sound hf hx).1
        have hi' := (rho_sound hf hi).1
        simp [execOp, ho, Instr.indexAt, asIntOf, underlying, hu, hx', hi', V.val_a, A.val, Instr.sureAddr, hb', sizeOf, typeInfo, hq]
      · exact h.elim
    · exact h.elim
  · exact h.elim

theorem op_index {t : TypeId} {x i : Operand} {v : V} {k : IntKind} {n : Int} (ho : o.op = .index t x i) (hx : rho F x = some v) (hi : rho F i = some (.a (.int k n)))
    (h : indexx c.P t v n fun r => K r H) : Pure c o F H K := by
  unfold indexx at h
  split at h
  · rename_i m e cs hu
    split at h
    · rename_i q hq
      obtain ⟨hb, h⟩ := needx_elim h
      have hb' := of_decide_eq_true hb
      obtain ⟨v, hk, h⟩ := partx_sound h
      refine ⟨v, hk, fun β a w hf => ?_⟩
      obtain ⟨hx', hok⟩ := rho_sound hf hx
      have hi' := (rho_sound hf hi).1
      obtain ⟨hv, hr⟩ := h β _ (fun x hx => ⟨hok.1 x hx, hok.2 x hx⟩)
      exact ⟨hv, by simp [execOp, ho, Instr.index, asIntOf, underlying, hu, hx', hi', A.val, V.val, hb', sizeOf, typeInfo, hq, hr w]⟩
    · exact h.elim
  · rename_i s hu
    obtain ⟨b, hb, hk⟩ := optx_elim h
    unfold byteAt at hb
    refine ⟨_, hk, fun β a w hf => ⟨⟨trivial, trivial⟩, ?_⟩⟩
    have hx' := (rho_sound hf hx).1
    have hi' := (rho_sound hf hi).1
    simp [execOp, ho, Instr.index, asIntOf, underlying, hu, hx', hi', V.val_a, A.val, hb]
  · exact h.elim

theorem op_extract {x : Operand} {i : Nat} {xs : List E} (ho : o.op = .extract x i) (hx : rho F x = some (.t xs)) (h : optx xs[i]? fun e => K e.toV H) : Pure c o F H K := by
  obtain ⟨e, he, hk⟩ := optx_elim h
  refine ⟨_, hk, fun β a w hf => ?_⟩
  obtain ⟨hx', hok⟩ := rho_sound hf hx
  refine ⟨E.toV_fit ⟨hok.1 e (List.mem_of_getElem? he), hok.2 e (List.mem_of_getElem? he)⟩, ?_⟩
  simp [execOp, ho, Instr.extract, hx', V.val, he]
  exact (E.toV_val β e).symm

theorem op_un {op : UnOp} {t : TypeId} {x : Operand} {y : A} (ho : o.op = .unOp op t x) (hx : rho F x = some (.a y)) (h : unx op y fun r => K (.a r) H) : Pure c o F H K := by
  unfold unx at h
  split at h
  · refine ⟨_, h, fun β a w hf => ⟨⟨trivial, trivial⟩, ?_⟩⟩
    have hx' := (rho_sound hf hx).1
    simp [execOp, ho, Op.unary, hx', V.val_a, A.val]
  · refine ⟨_, h, fun β a w hf => ⟨⟨trivial, trivial⟩, ?_⟩⟩
    have hx' := (rho_sound hf hx).1
    simp [execOp, ho, Op.unary, Op.intArith, hx', V.val_a, A.val]
  · refine ⟨_, h, fun β a w hf => ⟨⟨trivial, trivial⟩, ?_⟩⟩
    have hx' := (rho_sound hf hx).1
    simp [execOp, ho, Op.unary, Op.intBits, bitx, hx', V.val_a, A.val]
  · refine ⟨_, h, fun β a w hf => ⟨⟨trivial, trivial⟩, ?_⟩⟩
    have hx' := (rho_sound hf hx).1
    simp [execOp, ho, Op.unary, hx', V.val_a, A.val]
  · exact h.elim

/-- The world has drawn, and nothing else. -/
theorem OpOK.valueD {K : V → Hp → Prop} (h : ∀ β a w, WSat c β H w → FSat c β F H a → ∃ v d, K v H ∧ v.fit β H.length ∧ (execOp a.eval o).run c.P w = .ok (.value (v.val β)) { w with drawn := d }) : OpOK c o F H K := by
  intro β a w hw hf next Q hn
  obtain ⟨v, d, hk, hv, hr⟩ := h β a w hw hf
  simp only [Oper.wp, hr, Oper.upon]
  exact hn v H β _ hk hv ((Mv.refl hw).tick d)

theorem intx_sound {op : BinOp} {k : IntKind} {p q : Int} {K : A → Prop} (hs : op ≠ .shl) (hs' : op ≠ .shr) (h : intx op k p q K) (P : Program) (t : TypeId) :
    ∃ x, K x ∧ x.ok 0 ∧ ∀ (w : World) (β : Num), (Go.binOp op t (.int k p) (.int k q)).run P w = .ok (x.val β) w := by
  unfold intx at h
  split at h
  case h_4 | h_5 =>
    obtain ⟨hb, h⟩ := needx_elim h
    have hb' : q ≠ 0 := of_decide_eq_true hb
    refine ⟨_, h, trivial, fun w β => ?_⟩
    simp [Go.binOp, Op.intDiv, hb', A.val]
  all_goals first
    | exact h.elim
    | (refine ⟨_, h, trivial, fun w β => ?_⟩
       first
        | (simp [Go.binOp, Op.intArith, A.val]; done)
        | (simp [Go.binOp, Op.intBits, bitx, A.val]; done)
        | (simp [Go.binOp, Op.intCmp, A.val]; done))
theorem strx_sound {op : BinOp} {p q : ByteArray} {K : A → Prop} (h : strx op p q K) (P : Program) (t : TypeId) :
    ∃ x, K x ∧ x.ok 0 ∧ ∀ (w : World) (β : Num), (Go.binOp op t (.string p) (.string q)).run P w = .ok (x.val β) w := by
  unfold strx at h
  split at h
  case h_1 =>
    obtain ⟨hb, h⟩ := needx_elim h
    have hb' : p.size + q.size ≤ 9223372036854775807 := of_decide_eq_true hb
    refine ⟨_, h, trivial, fun w β => ?_⟩
    have hb2 : ¬ ((p.size + q.size : Nat) : Int) > IntKind.i64.max := by simp only [IntKind.max, IntKind.signed, IntKind.bits, if_true]; omega
    simp only [Go.binOp, Op.stringOp, if_neg hb2, A.val]
    rfl
  all_goals first
    | exact h.elim
    | (refine ⟨_, h, trivial, fun w β => ?_⟩
       simp [Go.binOp, Op.stringOp, A.val, Go.ByteArray.toList_eq]
       done)
theorem fltx_sound {k : FloatKind} {p q : Nat} {r : Option Nat} {K : A → Prop} (h : fltx k p q r K) (P : Program) (w : World) :
    ∃ x d, K x ∧ x.ok 0 ∧ ∀ β : Num, ((match r with | some r => pure (.float k r) | none => do pure (.float k (← choose (.nanBits k p q))) : Sem Value)).run P w = .ok (x.val β) { w with drawn := d } := by
  replace h := h.run
  split at h
  · exact ⟨_, w.drawn, h, trivial, fun β => rfl⟩
  · refine ⟨_, w.drawn + 1, h (w.tape w.drawn (.nanBits k p q)), trivial, fun β => ?_⟩
    simp only [Sem.run_bind, run_choose, Question.forced, Bool.false_eq_true, if_false, Result.andThen_ok, Sem.run_pure, A.val]
theorem floatx_sound {op : BinOp} {k : FloatKind} {p q : Nat} {K : A → Prop} (h : floatx op k p q K) (P : Program) (t : TypeId) (w : World) :
    ∃ x d, K x ∧ x.ok 0 ∧ ∀ β : Num, (Go.binOp op t (.float k p) (.float k q)).run P w = .ok (x.val β) { w with drawn := d } := by
  unfold floatx at h
  split at h
  case h_1 | h_2 | h_3 | h_4 =>
    obtain ⟨x, d, hk, ho, hr⟩ := fltx_sound h P w
    refine ⟨x, d, hk, ho, fun β => ?_⟩
    have := hr β
    simp only [Go.binOp, Op.floatArith, ne_eq, not_true_eq_false, if_false]
    exact this
  all_goals first
    | exact h.elim
    | (refine ⟨_, w.drawn, h, trivial, fun β => ?_⟩
       simp [Go.binOp, Op.floatCmp, A.val, fEqK, fLtK, fGtK, bne]
       done)
theorem eqAtom_in {P : Program} {t : TypeId} {x y : A} {b : Bool} (h : eqAtom P t x y = some b) (β : Num) (w : World) (d : Nat) (gx : x.gh β) (gy : y.gh β) :
    (Op.equalIn (d + 1) t (x.val β) (y.val β)).run P w = .ok b w := by
  unfold eqAtom at h
  split at h
  case h_3 | h_5 =>
    rename_i hu
    simp only [Option.some.injEq] at h
    subst h
    obtain ⟨b, eb, _⟩ := adr_get (by first | exact gx | exact gy) 0
    simp [Op.equalIn, underlying, hu, A.val, adr_some eb]
  case h_8 | h_10 =>
    rename_i i o l k hu
    split at h
    · rename_i hk
      simp only [Option.some.injEq] at h
      subst h
      have hne : β i ≠ none := fun e => by
        have h1 : l = 0 ∧ k = 0 := by first | exact gx e | exact gy e
        rw [h1.2] at hk
        cases hk
      obtain ⟨b, _, ea⟩ := adr_get hne o
      simp [Op.equalIn, underlying, hu, A.val, ea]
    · cases h
  all_goals
    simp only [Option.some.injEq, reduceCtorEq] at h <;> subst h <;> rename_i hu <;>
      simp [Op.equalIn, underlying, hu, A.val]
theorem eqAtom_sound {P : Program} {t : TypeId} {x y : A} {b : Bool} (h : eqAtom P t x y = some b) (β : Num) (w : World) (gx : x.gh β) (gy : y.gh β) :
    (Op.equal t (x.val β) (y.val β)).run P w = .ok b w := eqAtom_in h β w 9999 gx gy
end opers
end Go.Eng
/- The engine, part 4: comparisons, conversions, building, slicing. -/
set_option linter.unusedVariables false
namespace Go.Eng
section opers
variable {c : Ctx} {o : Oper} {β : Num} {F : Frm} {H : Hp} {a : Act} {w : World} {K : V → Hp → Prop}

theorem eqGuard_plain {op : BinOp} {t : TypeId} {X Y : Operand} {u v : Value} (hu : ∀ cs, u ≠ .agg cs) (h : u ≠ .nilIface ∨ v ≠ .nilIface) (P : Program) (w : World) :
    (eqGuard op t X Y u v).run P w = .ok () w := by
  unfold eqGuard
  split
  case h_3 => rfl
  all_goals
    simp only [Bool.not_true, Bool.false_eq_true, if_false]
    split
    · simp_all
    · rename_i cs _
      exact absurd rfl (hu cs)
    · rfl
theorem eqGuard_agg {op : BinOp} {t : TypeId} {X Y : Operand} {xs ys : Array Value} {P : Program} (h : P.eqGuardType P.depth t = false) (w : World) :
    (eqGuard op t X Y (.agg xs) (.agg ys)).run P w = .ok () w := by
  unfold eqGuard
  split
  case h_3 => rfl
  all_goals simp [h]
theorem A.val_ne_agg (β : Num) (x : A) (cs : Array Value) : x.val β ≠ .agg cs := by cases x <;> simp [A.val]
theorem A.val_nil {β : Num} {x : A} (h : x.val β = .nilIface) : x = .nili := by cases x <;> simp [A.val] at h ⊢
theorem binOp_eq {P : Program} {t : TypeId} {x y : A} {b : Bool} (h : eqAtom P t x y = some b) (β : Num) (w : World) (gx : x.gh β) (gy : y.gh β) :
    (Go.binOp .eql t (x.val β) (y.val β)).run P w = .ok (.bool b) w ∧ (Go.binOp .neq t (x.val β) (y.val β)).run P w = .ok (.bool !b) w := by
  have hs := eqAtom_sound h β w gx gy
  unfold eqAtom at h
  split at h
  case h_8 | h_10 =>
    split at h
    · simp only [Option.some.injEq] at h
      subst h
      simp only [A.val] at hs ⊢
      simp [Go.binOp, hs]
    · cases h
  all_goals
    simp only [Option.some.injEq, reduceCtorEq] at h <;> subst h <;> simp only [A.val] at hs ⊢ <;>
      simp [Go.binOp, hs]
theorem eqAtom_nil {P : Program} {t : TypeId} {x y : A} {b : Bool} (h : eqAtom P t x y = some b) : x ≠ .nili ∨ y ≠ .nili := by
  unfold eqAtom at h
  split at h <;> simp_all
/-- A float's arithmetic may draw the bits of a NaN. -/
def fltArith (op : BinOp) (x y : V) : Bool := match op, x, y with
  | .add, .a (.flt _ _), .a (.flt _ _) => true
  | .sub, .a (.flt _ _), .a (.flt _ _) => true
  | .mul, .a (.flt _ _), .a (.flt _ _) => true
  | .quo, .a (.flt _ _), .a (.flt _ _) => true
  | _, _, _ => false
theorem floatx_still {op : BinOp} {k : FloatKind} {p q : Nat} {K : A → Prop} (h : floatx op k p q K) (hs : fltArith op (.a (.flt k p)) (.a (.flt k q)) = false) (P : Program) (t : TypeId) :
    ∃ x, K x ∧ x.ok 0 ∧ ∀ (w : World) (β : Num), (Go.binOp op t (.float k p) (.float k q)).run P w = .ok (x.val β) w := by
  unfold floatx at h
  split at h
  case h_1 | h_2 | h_3 | h_4 => simp [fltArith] at hs
  all_goals first
    | exact h.elim
    | (refine ⟨_, h, trivial, fun w β => ?_⟩
       simp [Go.binOp, Op.floatCmp, A.val, fEqK, fLtK, fGtK, bne]
       done)
theorem binA_still {op : BinOp} {t : TypeId} {X Y : Operand} {x y : A} {K : A → Prop} (h : binA c.P op t x y K) (hs : fltArith op (.a x) (.a y) = false) :
    ∃ r, K r ∧ r.ok 0 ∧ ∀ (w : World) (β : Num), x.gh β → y.gh β → ((do eqGuard op t X Y (x.val β) (y.val β); Go.binOp op t (x.val β) (y.val β)) : Sem Value).run c.P w = .ok (r.val β) w := by
  unfold binA at h
  split at h
  · rename_i k p k' q
    have guard : ∀ w, (eqGuard op t X Y (.int k p) (.int k' q)).run c.P w = .ok () w := fun w => eqGuard_plain (by simp) (by simp) _ _
    split at h
    · obtain ⟨hb, h⟩ := needx_elim h
      have hb' : ¬ q < 0 := by have := of_decide_eq_true hb; omega
      exact ⟨_, h, trivial, fun w β _ _ => by simp [A.val, guard w, Go.binOp, Op.shift, hb']⟩
    · obtain ⟨hb, h⟩ := needx_elim h
      have hb' : ¬ q < 0 := by have := of_decide_eq_true hb; omega
      exact ⟨_, h, trivial, fun w β _ _ => by simp [A.val, guard w, Go.binOp, Op.shift, hb']⟩
    · rename_i hsh hsh'
      obtain ⟨hb, h2⟩ := needx_elim h
      have hb' : k = k' := of_decide_eq_true hb
      subst hb'
      obtain ⟨r, hk, ho, hr⟩ := intx_sound (fun e => hsh e) (fun e => hsh' e) h2 c.P t
      exact ⟨r, hk, ho, fun w β _ _ => by simp only [A.val, Sem.run_bind, guard w, Result.andThen_ok, hr w β]⟩
  · rename_i k p k' q
    obtain ⟨hb, h2⟩ := needx_elim h
    have hb' : k = k' := of_decide_eq_true hb
    subst hb'
    obtain ⟨r, hk, ho, hr⟩ := floatx_still h2 hs c.P t
    exact ⟨r, hk, ho, fun w β _ _ => by simp only [A.val, Sem.run_bind, eqGuard_plain (u := .float k p) (by simp) (by simp), Result.andThen_ok, hr w β]⟩
  · obtain ⟨r, hk, ho, hr⟩ := strx_sound h c.P t
    exact ⟨r, hk, ho, fun w β _ _ => by simp only [A.val, Sem.run_bind, eqGuard_plain (u := .string _) (by simp) (by simp), Result.andThen_ok, hr w β]⟩
  · split at h
    · obtain ⟨b, hb, hk⟩ := optx_elim h
      refine ⟨_, hk, trivial, fun w β gx gy => ?_⟩
      have hg := eqGuard_plain (op := .eql) (t := t) (X := X) (Y := Y) (u := x.val β) (v := y.val β) (A.val_ne_agg β x) ((eqAtom_nil hb).imp (fun h e => h (A.val_nil e)) (fun h e => h (A.val_nil e))) c.P w
      rw [Sem.run_bind, hg, Result.andThen_ok, (binOp_eq hb β w gx gy).1]
      rfl
    · obtain ⟨b, hb, hk⟩ := optx_elim h
      refine ⟨_, hk, trivial, fun w β gx gy => ?_⟩
      have hg := eqGuard_plain (op := .neq) (t := t) (X := X) (Y := Y) (u := x.val β) (v := y.val β) (A.val_ne_agg β x) ((eqAtom_nil hb).imp (fun h e => h (A.val_nil e)) (fun h e => h (A.val_nil e))) c.P w
      rw [Sem.run_bind, hg, Result.andThen_ok, (binOp_eq hb β w gx gy).2]
      rfl
    · exact h.elim
theorem op_bin_still {op : BinOp} {t u : TypeId} {X Y : Operand} {x y : V} (ho : o.op = .binOp op t X Y u) (hx : rho F X = some x) (hy : rho F Y = some y) (hs : fltArith op x y = false) (h : binx c.P op t x y fun r => K r H) : Pure c o F H K := by
  unfold binx at h
  split at h
  · obtain ⟨r, hk, hok, hr⟩ := binA_still (X := X) (Y := Y) h hs
    refine ⟨_, hk, fun β a w hf => ⟨A.fit_of0 hok, ?_⟩⟩
    have hx' := (rho_sound hf hx).1
    have hy' := (rho_sound hf hy).1
    have := hr w β (rho_sound hf hx).2.2 (rho_sound hf hy).2.2
    simp only [execOp, ho, hx', hy', V.val_a, Sem.run_bind] at this ⊢
    rw [this]
    rfl
  · rename_i xs ys
    obtain ⟨hg, h⟩ := needx_elim h
    have hg' : c.P.eqGuardType c.P.depth t = false := by simpa using hg
    split at h
    · obtain ⟨b, hb, hk⟩ := h
      refine ⟨_, hk, fun β a w hf => ⟨⟨trivial, trivial⟩, ?_⟩⟩
      have hx' := (rho_sound hf hx).1
      have hy' := (rho_sound hf hy).1
      have he := hb β w (rho_sound hf hx).2.2 (rho_sound hf hy).2.2
      simp only [execOp, ho, hx', hy', V.val, Sem.run_bind, eqGuard_agg hg', Result.andThen_ok, Go.binOp, he, Sem.run_pure, A.val]
    · obtain ⟨b, hb, hk⟩ := h
      refine ⟨_, hk, fun β a w hf => ⟨⟨trivial, trivial⟩, ?_⟩⟩
      have hx' := (rho_sound hf hx).1
      have hy' := (rho_sound hf hy).1
      have he := hb β w (rho_sound hf hx).2.2 (rho_sound hf hy).2.2
      simp only [execOp, ho, hx', hy', V.val, Sem.run_bind, eqGuard_agg hg', Result.andThen_ok, Go.binOp, he, Sem.run_pure, A.val]
    · exact h.elim
  · exact h.elim
theorem op_bin {op : BinOp} {t u : TypeId} {X Y : Operand} {x y : V} (ho : o.op = .binOp op t X Y u) (hx : rho F X = some x) (hy : rho F Y = some y) (h : binx c.P op t x y fun r => K r H) : OpOK c o F H K := by
  by_cases hs : fltArith op x y = false
  · exact (op_bin_still ho hx hy hs h).still.ok
  · refine .valueD fun β a w hw hf => ?_
    have hx' := (rho_sound hf hx).1
    have hy' := (rho_sound hf hy).1
    unfold fltArith at hs
    split at hs
    case h_5 => exact absurd rfl hs
    all_goals
      rename_i k p k' q
      simp only [binx, binA] at h
      obtain ⟨hb, h2⟩ := needx_elim h
      have hb' : k = k' := of_decide_eq_true hb
      subst hb'
      obtain ⟨r, d, hk, hok, hr⟩ := floatx_sound h2 c.P t w
      refine ⟨_, d, hk, A.fit_of0 hok, ?_⟩
      have := hr β
      simp only [execOp, ho, hx', hy', V.val_a, A.val, Sem.run_bind, eqGuard_plain (u := .float k p) (by simp) (by simp), Result.andThen_ok, this, Sem.run_pure]

/-! Reading rows. -/
theorem rowx_sound {x : A} {n : Nat} {K : List A → Prop} (h : rowx c.ro H x n K) :
    ∃ xs : List A, K xs ∧ xs.length = n ∧ ∀ β w, WSat c β H w → x.gh β → (∀ y ∈ xs, y.fit β H.length) ∧
      ((x.val β = .slice none 0 0 ∧ n = 0) ∨ ∃ p l k, x.val β = .slice (some p) l k ∧ ∀ j y, xs[j]? = some y → w.cell? (p.add j) = some (y.val β)) := by
  unfold rowx at h
  split at h
  · obtain ⟨hn, h⟩ := needx_elim h
    have hn' : n = 0 := by simpa using hn
    exact ⟨[], h, by simp [hn'], fun β w hw _ => ⟨by simp, .inl ⟨rfl, hn'⟩⟩⟩
  · rename_i id off l k
    split at h
    · rename_i cs ty mk hb
      obtain ⟨hl, h⟩ := needx_elim h
      have hl' : off + n ≤ cs.length := of_decide_eq_true hl
      refine ⟨_, h, length_slice hl', fun β w hw hg => ⟨ok_slice (hw.ok_cells hb), ?_⟩⟩
      cases e : β id with
      | none =>
        obtain ⟨rfl, rfl⟩ := hg e
        have hbr : cs = [] := hw.bare id _ hb e
        refine .inl ⟨by simp [A.val, adr_none e], ?_⟩
        rw [hbr] at hl'
        simp at hl'
        omega
      | some b =>
        refine .inr ⟨_, l, k, congrArg (fun z => Value.slice z l k) (adr_some e off), fun j y hy => ?_⟩
        rw [add_none]
        exact hw.cell hb e (getElem_slice hy)
    · exact h.elim
  · rename_i p l k
    obtain ⟨xs, hl, hx, hk⟩ := h
    refine ⟨xs, hk, hl, fun β w hw _ => ⟨fun y hy => ?_, .inr ⟨p, l, k, rfl, fun j y hy => hw.rcell (hx j y hy)⟩⟩⟩
    obtain ⟨j, hj⟩ := List.getElem?_of_mem hy
    exact A.fit_of0 (hw.ro.ext _ y (hx j y hj))
  · exact h.elim
theorem run_loadRow {P : Program} {xs : List A} {p : Addr} (h : ∀ j y, xs[j]? = some y → w.cell? (p.add j) = some (y.val β)) :
    (loadCells p xs.length).run P w = .ok (xs.map (A.val β)).toArray w := by
  have := run_loadCells (P := P) (w := w) (xs.map (A.val β)) p 0 #[] (fun j v hj => by
    rw [List.getElem?_map] at hj
    obtain ⟨y, hy, rfl⟩ := Option.map_eq_some_iff.1 hj
    rw [Nat.zero_add]
    exact h j y hy)
  rw [List.length_map] at this
  simpa [loadCells] using this
theorem bytesOf_sound : ∀ {cs : List A} {bs : List UInt8}, bytesOf cs = some bs → ∃ ns : List Int, cs = ns.map (A.int .u8) ∧ bs = ns.map fun n => UInt8.ofNat n.toNat
  | [], bs, h => by simp only [bytesOf, Option.some.injEq] at h; subst h; exact ⟨[], rfl, rfl⟩
  | x :: l, bs, h => by
    unfold bytesOf at h
    split at h
    · cases ‹_ :: _ = []›
    · rename_i n l' e
      injection e with e1 e2
      subst e1 e2
      split at h
      · rename_i r hr
        simp only [Option.some.injEq] at h
        subst h
        obtain ⟨ns, h1, h2⟩ := bytesOf_sound hr
        exact ⟨n :: ns, by simp [h1], by simp [h2]⟩
      · cases h
    · cases h
theorem foldl_push (ns : List Int) : ∀ acc : ByteArray, ns.foldl (fun (r : ByteArray) n => r.push (UInt8.ofNat n.toNat)) acc = ⟨acc.data ++ (ns.map fun n => UInt8.ofNat n.toNat).toArray⟩ := by
  induction ns with
  | nil => intro acc; simp
  | cons n ns ih =>
    intro acc
    rw [List.foldl_cons, ih]
    simp [ByteArray.push]
theorem run_bytesStr {P : Program} {xs : List A} {bs : List UInt8} (hb : bytesOf xs = some bs) {p : Addr} {l k : Nat} (hl : xs.length = l) (h : ∀ j y, xs[j]? = some y → w.cell? (p.add j) = some (y.val β)) :
    (Conv.bytesToString (.slice (some p) l k)).run P w = .ok (.string ⟨bs.toArray⟩) w := by
  obtain ⟨ns, h1, h2⟩ := bytesOf_sound hb
  have hr := run_loadRow (P := P) h
  have e : xs.map (A.val β) = ns.map (Value.int .u8) := by subst h1; simp [A.val]
  rw [e, hl] at hr
  rw [run_bytesToString w p l k ns hr, foldl_push, h2]
  simp
end opers
end Go.Eng
/- The engine, part 5: conversions, building, making, slicing. -/
set_option linter.unusedVariables false
namespace Go.Eng
section opers
variable {c : Ctx} {o : Oper} {β : Num} {F : Frm} {H : Hp} {a : Act} {w : World} {K : V → Hp → Prop}

/-- The world after a new block and some draws. -/
theorem OpOK.newD {ty : TypeId} {mk : Bool} (h : ∀ β a w, WSat c β H w → FSat c β F H a → ∃ cs v d, K v (H ++ [.cells cs ty mk]) ∧ (∀ x ∈ cs, x.fit β H.length) ∧ v.fit (fun i => if i = H.length then some w.heap.size else β i) (H.length + 1) ∧
    (execOp a.eval o).run c.P w = .ok (.value (v.val fun i => if i = H.length then some w.heap.size else β i)) { (w.alloc ((Ob.cells cs ty mk).obj β)) with drawn := d }) : OpOK c o F H K := by
  intro β a w hw hf next Q hn
  obtain ⟨cs, v, d, hk, hok, hv, hr⟩ := h β a w hw hf
  simp only [Oper.wp, hr, Oper.upon]
  have m := hw.alloc (.cells cs ty mk) (Ob.fit_cells hok)
  exact hn v _ _ _ hk (by simpa using hv) (m.tick d)

theorem adr_new {β : Num} {n b o : Nat} : adr (fun i => if i = n then some b else β i) n o = some ⟨b, o, none⟩ := adr_some (if_pos rfl) o
theorem fit_news {β : Num} {n b o l k : Nat} : (V.a (.slc n o l k)).fit (fun i => if i = n then some b else β i) (n + 1) := ⟨Nat.lt_succ_self _, by simp [V.gh, A.gh]⟩
theorem u8s_val (s : List UInt8) : (u8s s).map (A.val β) = s.map fun b => Value.int .u8 b.toNat := by simp [u8s, A.val]
theorem u8s_fit (β : Num) (n : Nat) (s : List UInt8) : ∀ x ∈ u8s s, x.fit β n := by
  intro x hx
  unfold u8s at hx
  obtain ⟨b, _, rfl⟩ := List.mem_map.1 hx
  exact ⟨trivial, trivial⟩
theorem freeze_new (w : World) (cs : Array Value) (e : TypeId) (n : Nat) :
    (w.alloc (.cells cs e)).freeze ⟨w.heap.size, n, none⟩ 1 = w.alloc (.cells cs e (n, n + 1)) := by
  have h : (w.heap.push (Obj.cells cs e)).modify w.heap.size (fun
      | .cells c elem (lo, hi) => .cells c elem (if lo == hi then (n, n + 1) else (min lo n, max hi (n + 1)))
      | o => o) = w.heap.push (Obj.cells cs e (n, n + 1)) := by
    apply Array.ext_getElem?
    intro i
    rw [Array.getElem?_modify]
    by_cases h : w.heap.size = i
    · subst h; simp
    · rw [if_neg h, Array.getElem?_push, Array.getElem?_push]
      simp [Ne.symm h]
  unfold World.freeze
  rw [if_neg (by simp)]
  show World.mk _ _ _ _ _ = World.mk _ _ _ _ _
  congr 1
theorem run_strBytes {P : Program} (w : World) (e : TypeId) (s : ByteArray) : ∃ cap, s.size ≤ cap ∧
    (Conv.stringToBytes e s).run P w = .ok (.slice (some ⟨w.heap.size, 0, none⟩) s.size cap)
      { (w.alloc ((Ob.cells (u8s s.data.toList ++ List.replicate (cap - s.size) (A.int .u8 0)) e true).obj β)) with drawn := w.drawn + 1 } := by
  refine ⟨s.size + w.tape w.drawn (.appendCap s.size 0 e) % (2 ^ 63 - s.size), Nat.le_add_right _ _, ?_⟩
  generalize hc : s.size + w.tape w.drawn (.appendCap s.size 0 e) % (2 ^ 63 - s.size) = cap
  have hcells : (s.data.map fun b => Value.int .u8 b.toNat) ++ Array.replicate (cap - s.size) (Value.int .u8 0) = ((u8s s.data.toList ++ List.replicate (cap - s.size) (A.int .u8 0)).map (A.val β)).toArray := by
    simp [u8s_val, A.val]
  unfold Conv.stringToBytes
  simp only [Sem.run_bind, run_choose, Question.forced, Bool.false_eq_true, if_false, Result.andThen_ok, Question.cut, hc, newRow, run_newObj, Sem.run_pure, markStringish, run_shape]
  rw [hcells]
  have hs : ({ heap := w.heap.push (Obj.cells ((u8s s.data.toList ++ List.replicate (cap - s.size) (A.int .u8 0)).map (A.val β)).toArray e), tape := w.tape, drawn := w.drawn + 1, os := w.os, output := w.output } : World)
      = w.drew.alloc (Obj.cells ((u8s s.data.toList ++ List.replicate (cap - s.size) (A.int .u8 0)).map (A.val β)).toArray e) := rfl
  rw [hs]
  have hsh : (w.drew.alloc (Obj.cells ((u8s s.data.toList ++ List.replicate (cap - s.size) (A.int .u8 0)).map (A.val β)).toArray e)).shape? w.heap.size = some (e, (u8s s.data.toList ++ List.replicate (cap - s.size) (A.int .u8 0)).length) := by
    show (match (w.heap.push _)[w.heap.size]? with | some (.cells c elem _) => some (elem, c.size) | _ => none) = _
    simp
  rw [hsh]
  simp only [run_freeze, Result.andThen_ok]
  have := freeze_new w.drew ((u8s s.data.toList ++ List.replicate (cap - s.size) (A.int .u8 0)).map (A.val β)).toArray e (u8s s.data.toList ++ List.replicate (cap - s.size) (A.int .u8 0)).length
  simp only [World.size_drew] at this
  rw [this]
  rfl
theorem runesFrom_eq (s : ByteArray) : ∀ (b i : Nat) (acc : Array Value), Conv.runesFrom s b i acc = acc ++ ((runesGo s b i).map fun (n : Nat) => Value.int .i32 (n : Int)).toArray
  | 0, i, acc => by simp [Conv.runesFrom, runesGo]
  | b + 1, i, acc => by
    unfold Conv.runesFrom runesGo
    by_cases h : i < s.size
    · rw [if_pos h, if_pos h]
      show Conv.runesFrom s b (i + (Utf8.decode s i).2) (acc.push (.int .i32 (Int.ofNat (Utf8.decode s i).1))) = _
      rw [runesFrom_eq s b]
      simp
    · rw [if_neg h, if_neg h]
      simp
theorem run_strRunes {P : Program} (w : World) (e : TypeId) (s : ByteArray) : ∃ cap, (runesL s).length ≤ cap ∧
    (Conv.stringToRunes e s).run P w = .ok (.slice (some ⟨w.heap.size, 0, none⟩) (runesL s).length cap)
      { (w.alloc ((Ob.cells (i32s (runesL s) ++ List.replicate (cap - (runesL s).length) (A.int .i32 0)) e false).obj β)) with drawn := w.drawn + 1 } := by
  refine ⟨(runesL s).length + w.tape w.drawn (.appendCap (runesL s).length 0 e) % (2 ^ 63 - (runesL s).length), Nat.le_add_right _ _, ?_⟩
  generalize hc : (runesL s).length + w.tape w.drawn (.appendCap (runesL s).length 0 e) % (2 ^ 63 - (runesL s).length) = cap
  have he : Conv.runesFrom s s.size 0 #[] = ((runesL s).map fun (n : Nat) => Value.int .i32 (n : Int)).toArray := by
    rw [runesFrom_eq]
    unfold runesL
    simp
  have hsz : (Conv.runesFrom s s.size 0 #[]).size = (runesL s).length := by rw [he]; simp
  have hcells : ((runesL s).map fun (n : Nat) => Value.int .i32 (n : Int)).toArray ++ Array.replicate (cap - (runesL s).length) (Value.int .i32 0) = ((i32s (runesL s) ++ List.replicate (cap - (runesL s).length) (A.int .i32 0)).map (A.val β)).toArray := by
    unfold i32s
    simp [A.val]
  unfold Conv.stringToRunes
  simp only [hsz, Sem.run_bind, run_choose, Question.forced, Bool.false_eq_true, if_false, Result.andThen_ok, Question.cut, hc, newRow, run_newObj, Sem.run_pure]
  rw [he, hcells]
  rfl
theorem lenA_val {x : A} {n l k : Nat} {p : Addr} (hn : lenA x = some n) (hv : x.val β = .slice (some p) l k) : n = l := by
  cases x <;> simp only [lenA, Option.some.injEq, reduceCtorEq] at hn <;> simp only [A.val, Value.slice.injEq, reduceCtorEq, Option.some.injEq] at hv <;> first
    | (exact hn.symm.trans hv.2.1)
    | (exact absurd hv.1 (by simp))
theorem op_conv {s d : TypeId} {X : Operand} {x : A} (ho : o.op = .convert s d X) (hx : rho F X = some (.a x)) (h : convA c.P c.ro s d x H fun r H' => K (.a r) H') : OpOK c o F H K := by
  unfold convA at h
  split at h
  · rename_i k _ n h1 h2
    refine Still.ok ⟨_, h, fun β a w hw hf => ⟨⟨trivial, trivial⟩, ?_⟩⟩
    have hx' := (rho_sound hf hx).1
    simp [execOp, ho, hx', Go.convert, underlying, h1, h2, V.val_a, A.val, Conv.intToInt]
  · rename_i k _ n h1 h2
    refine Still.ok ⟨_, h, fun β a w hw hf => ⟨⟨trivial, trivial⟩, ?_⟩⟩
    have hx' := (rho_sound hf hx).1
    simp [execOp, ho, hx', Go.convert, underlying, h1, h2, V.val_a, A.val, Conv.intToFloat]
  · rename_i h1 h2
    refine Still.ok ⟨_, h, fun β a w hw hf => ⟨⟨trivial, trivial⟩, ?_⟩⟩
    have hx' := (rho_sound hf hx).1
    simp [execOp, ho, hx', Go.convert, underlying, h1, h2, V.val_a, A.val]
  · rename_i h1 h2
    refine Still.ok ⟨_, h, fun β a w hw hf => ⟨⟨trivial, trivial⟩, ?_⟩⟩
    have hx' := (rho_sound hf hx).1
    simp [execOp, ho, hx', Go.convert, underlying, h1, h2, V.val_a, A.val, Conv.intToString]
  · rename_i e s h1 h2
    split at h
    · rename_i h3
      refine .newD (ty := e) (mk := true) fun β a w hw hf => ?_
      obtain ⟨cap, hcap, hr⟩ := run_strBytes (β := β) (P := c.P) w e s
      refine ⟨_, _, w.drawn + 1, h cap hcap, fun x hx => ?_, fit_news, ?_⟩
      · rcases List.mem_append.1 hx with hx | hx
        · exact u8s_fit _ _ _ x hx
        · obtain ⟨_, rfl⟩ := List.mem_replicate.1 hx
          exact ⟨trivial, trivial⟩
      · have hx' := (rho_sound hf hx).1
        simp only [execOp, ho, hx', Go.convert, underlying, h1, h2, h3, V.val_a, A.val, Sem.run_bind, run_program, Result.andThen_ok, Sem.run_pure, hr, adr_new]
    · rename_i h3
      refine .newD (ty := e) (mk := false) fun β a w hw hf => ?_
      obtain ⟨cap, hcap, hr⟩ := run_strRunes (β := β) (P := c.P) w e s
      refine ⟨_, _, w.drawn + 1, h cap hcap, fun x hx => ?_, fit_news, ?_⟩
      · rcases List.mem_append.1 hx with hx | hx
        · unfold i32s at hx
          obtain ⟨n, _, rfl⟩ := List.mem_map.1 hx
          exact ⟨trivial, trivial⟩
        · obtain ⟨_, rfl⟩ := List.mem_replicate.1 hx
          exact ⟨trivial, trivial⟩
      · have hx' := (rho_sound hf hx).1
        simp only [execOp, ho, hx', Go.convert, underlying, h1, h2, h3, V.val_a, A.val, Sem.run_bind, run_program, Result.andThen_ok, Sem.run_pure, hr, adr_new]
    · exact h.elim
  · rename_i e h1 h2 _ _
    split at h
    · rename_i h3
      obtain ⟨n, hn, h⟩ := optx_elim h
      obtain ⟨xs, h, hl, hrows⟩ := rowx_sound h
      obtain ⟨bs, hb, h⟩ := optx_elim h
      refine Still.ok ⟨_, h, fun β a w hw hf => ⟨⟨trivial, trivial⟩, ?_⟩⟩
      have hx' := (rho_sound hf hx).1
      obtain ⟨hok, hrow⟩ := hrows β w hw (rho_sound hf hx).2.2
      rcases hrow with ⟨hv, h0⟩ | ⟨p, l, k, hv, hc⟩
      · have : xs = [] := List.eq_nil_of_length_eq_zero (by omega)
        subst this
        simp only [bytesOf, Option.some.injEq] at hb
        subst hb
        simp [execOp, ho, hx', Go.convert, underlying, h1, h2, h3, V.val_a, hv, Conv.bytesToString]
        rfl
      · have hln : n = l := lenA_val hn hv
        have hr := run_bytesStr (P := c.P) (k := k) hb (hl.trans hln) hc
        simp [execOp, ho, hx', Go.convert, underlying, h1, h2, h3, V.val_a, A.val, hv, hr]
    · exact h.elim
  · rename_i k s b h1 h2
    obtain ⟨hb, h⟩ := needx_elim h
    have hb' : s = k := of_decide_eq_true hb
    subst hb'
    refine Still.ok ⟨_, h, fun β a w hw hf => ⟨⟨trivial, trivial⟩, ?_⟩⟩
    have hx' := (rho_sound hf hx).1
    simp [execOp, ho, hx', Go.convert, underlying, h1, h2, V.val_a, A.val, Conv.floatToFloat]
  · rename_i k0 s0 b0 h1 h2
    obtain ⟨n, hn, h⟩ := optx_elim h
    refine Still.ok ⟨_, h, fun β a w hw hf => ⟨⟨trivial, trivial⟩, ?_⟩⟩
    have hx' := (rho_sound hf hx).1
    have hr := run_convert_float_int (P := c.P) w s d s0 k0 b0 n (by rw [h1]; rfl) h2 hn
    simp only [execOp, ho, hx', V.val_a, A.val, Sem.run_bind, hr, Result.andThen_ok, Sem.run_pure]
  · exact h.elim

/-- Conversions that make no memory. -/
theorem op_conv_still {s d : TypeId} {X : Operand} {x : A} (ho : o.op = .convert s d X) (hs : convStill c.P d = true) (hx : rho F X = some (.a x)) (h : convA c.P c.ro s d x H fun r H' => K (.a r) H') : Still c o F H K := by
  unfold convA at h
  split at h
  · rename_i k _ n h1 h2
    refine ⟨_, h, fun β a w hw hf => ⟨⟨trivial, trivial⟩, ?_⟩⟩
    have hx' := (rho_sound hf hx).1
    simp [execOp, ho, hx', Go.convert, underlying, h1, h2, V.val_a, A.val, Conv.intToInt]
  · rename_i k _ n h1 h2
    refine ⟨_, h, fun β a w hw hf => ⟨⟨trivial, trivial⟩, ?_⟩⟩
    have hx' := (rho_sound hf hx).1
    simp [execOp, ho, hx', Go.convert, underlying, h1, h2, V.val_a, A.val, Conv.intToFloat]
  · rename_i h1 h2
    refine ⟨_, h, fun β a w hw hf => ⟨⟨trivial, trivial⟩, ?_⟩⟩
    have hx' := (rho_sound hf hx).1
    simp [execOp, ho, hx', Go.convert, underlying, h1, h2, V.val_a, A.val]
  · rename_i h1 h2
    refine ⟨_, h, fun β a w hw hf => ⟨⟨trivial, trivial⟩, ?_⟩⟩
    have hx' := (rho_sound hf hx).1
    simp [execOp, ho, hx', Go.convert, underlying, h1, h2, V.val_a, A.val, Conv.intToString]
  · rename_i e s h1 h2
    simp [convStill, h2] at hs
  · rename_i e h1 h2 _ _
    split at h
    · rename_i h3
      obtain ⟨n, hn, h⟩ := optx_elim h
      obtain ⟨xs, h, hl, hrows⟩ := rowx_sound h
      obtain ⟨bs, hb, h⟩ := optx_elim h
      refine ⟨_, h, fun β a w hw hf => ⟨⟨trivial, trivial⟩, ?_⟩⟩
      have hx' := (rho_sound hf hx).1
      obtain ⟨hok, hrow⟩ := hrows β w hw (rho_sound hf hx).2.2
      rcases hrow with ⟨hv, h0⟩ | ⟨p, l, k, hv, hc⟩
      · have : xs = [] := List.eq_nil_of_length_eq_zero (by omega)
        subst this
        simp only [bytesOf, Option.some.injEq] at hb
        subst hb
        simp [execOp, ho, hx', Go.convert, underlying, h1, h2, h3, V.val_a, hv, Conv.bytesToString]
        rfl
      · have hln : n = l := lenA_val hn hv
        have hr := run_bytesStr (P := c.P) (k := k) hb (hl.trans hln) hc
        simp [execOp, ho, hx', Go.convert, underlying, h1, h2, h3, V.val_a, A.val, hv, hr]
    · exact h.elim
  · rename_i k s b h1 h2
    obtain ⟨hb, h⟩ := needx_elim h
    have hb' : s = k := of_decide_eq_true hb
    subst hb'
    refine ⟨_, h, fun β a w hw hf => ⟨⟨trivial, trivial⟩, ?_⟩⟩
    have hx' := (rho_sound hf hx).1
    simp [execOp, ho, hx', Go.convert, underlying, h1, h2, V.val_a, A.val, Conv.floatToFloat]
  · rename_i k0 s0 b0 h1 h2
    obtain ⟨n, hn, h⟩ := optx_elim h
    refine ⟨_, h, fun β a w hw hf => ⟨⟨trivial, trivial⟩, ?_⟩⟩
    have hx' := (rho_sound hf hx).1
    have hr := run_convert_float_int (P := c.P) w s d s0 k0 b0 n (by rw [h1]; rfl) h2 hn
    simp only [execOp, ho, hx', V.val_a, A.val, Sem.run_bind, hr, Result.andThen_ok, Sem.run_pure]
  · exact h.elim

/-! Building. -/
theorem partsx_sound (hF : FSat c β F H a) : ∀ {l : List (Nat × Operand)} {vs : List (Nat × V)}, partsx F l = some vs → (l.map fun p => (p.1, a.eval p.2)) = vs.map (fun p => (p.1, p.2.val β)) ∧ ∀ p ∈ vs, p.2.fit β H.length
  | [], vs, h => by simp only [partsx, Option.some.injEq] at h; subst h; simp
  | (i, x) :: l, vs, h => by
    simp only [partsx] at h
    split at h
    · rename_i v us h1 h2
      simp only [Option.some.injEq] at h
      subst h
      obtain ⟨e1, o1⟩ := rho_sound hF h1
      obtain ⟨e2, o2⟩ := partsx_sound hF h2
      refine ⟨by simp [e1, e2], fun p hp => ?_⟩
      rcases List.mem_cons.1 hp with rfl | hp
      · exact o1
      · exact o2 p hp
    · cases h
theorem foldl_set (xs : List A) : ∀ (cs : List A) (off j : Nat), ((xs.map (A.val β)).zipIdx j).foldl (fun (r : Array Value) (p : Value × Nat) => r.setIfInBounds (off + p.2) p.1) (cs.map (A.val β)).toArray = ((storeL cs (off + j) xs).map (A.val β)).toArray := by
  induction xs with
  | nil => intro cs off j; rfl
  | cons x xs ih =>
    intro cs off j
    simp only [List.map_cons, List.zipIdx_cons, List.foldl_cons, storeL]
    have := ih (cs.set (off + j) x) off (j + 1)
    rw [← Nat.add_assoc] at this
    rw [← this]
    congr 1
    simp [List.map_set]
theorem fillx_sound {P : Program} {place : Nat → Option (Nat × Nat)} : ∀ (l : List (Nat × V)) (cs : List A) {K : List A → Prop}, fillx P place cs l K →
    ∃ r, K r ∧ (∀ (β : Num) n, (∀ p ∈ l, p.2.fit β n) → (∀ x ∈ cs, x.fit β n) → ∀ x ∈ r, x.fit β n) ∧ r.length = cs.length ∧ ∀ β : Num, Instr.fill place (cs.map (A.val β)).toArray (l.map fun p => (p.1, p.2.val β)) = some (r.map (A.val β)).toArray
  | [], cs, K, h => ⟨cs, h, fun _ _ _ hc => hc, rfl, fun β => rfl⟩
  | (i, v) :: l, cs, K, h => by
    unfold fillx at h
    split at h
    · rename_i off size xs hp hx
      obtain ⟨hb, h⟩ := needx_elim h
      simp only [Bool.and_eq_true, beq_iff_eq, decide_eq_true_eq] at hb
      obtain ⟨r, hk, hr, hlen, hf⟩ := fillx_sound l (storeL cs off xs) h
      refine ⟨r, hk, fun β n hl hc => hr β n (fun p hp => hl p (by simp [hp])) (storeL_ok _ _ _ hc (V.cells_fit hx (hl (i, v) (by simp)))), by rw [hlen, storeL_length], fun β => ?_⟩
      have hcells : (v.val β).cells = (xs.map (A.val β)).toArray := V.val_cells hx
      have hfs := foldl_set (β := β) xs cs off 0
      simp only [Nat.add_zero] at hfs
      rw [List.map_cons]
      unfold Instr.fill
      simp only [hp, hcells]
      rw [if_neg (by simp; omega)]
      rw [← hf β, ← hfs]
      congr 1
      rw [← Array.foldl_toList, Array.toList_zipIdx]
    · exact h.elim
theorem places_sound {P : Program} (w : World) : ∀ {fs : List Field} {pl : List (Nat × Nat)}, places P fs = some pl →
    (fs.mapM fun f => do pure (f.offset, ← sizeOf f.type) : Sem (List (Nat × Nat))).run P w = .ok pl w
  | [], pl, h => by simp only [places, Option.some.injEq] at h; subst h; rfl
  | f :: fs, pl, h => by
    simp only [places] at h
    split at h
    · rename_i i r hi hr
      simp only [Option.some.injEq] at h
      subst h
      have := places_sound w hr
      simp only [List.mapM_cons, Sem.run_bind, sizeOf, typeInfo, run_program, Result.andThen_ok, hi, Sem.run_pure] at this ⊢
      rw [this]
      rfl
    · cases h
theorem op_build_struct {t : TypeId} {ps : Array (Nat × Operand)} {fs : Array Field} {zs : List A} {l : List (Nat × V)} {pl : List (Nat × Nat)} (ho : o.op = .build t ps) (hu : c.P.underlying t = some (.struct fs)) (hz : zeros c.P t = some zs)
    (hp : partsx F ps.toList = some l) (hpl : places c.P fs.toList = some pl) (h : fillx c.P (fun i => pl[i]?) zs l fun cs => K (.g cs) H) : Pure c o F H K := by
  obtain ⟨q, z, hi, hv, hc, hok⟩ := zeros_sound hz
  obtain ⟨r, hk, hr, _, hfill⟩ := fillx_sound l zs h
  refine ⟨_, hk, fun β a w hf => ?_⟩
  obtain ⟨e, hl⟩ := partsx_sound hf hp
  refine ⟨V.fit_g (hr β _ hl (fun x hx => A.fit_of0 (hok x hx))), ?_⟩
  have hpl' := places_sound w hpl
  have hm : (fs.mapM fun f => do pure (f.offset, ← sizeOf f.type) : Sem (Array (Nat × Nat))).run c.P w = .ok pl.toArray w := by
    rw [Array.mapM_eq_mapM_toList, Sem.run_map, hpl']
    rfl
  have hparts : (ps.map fun (p : Nat × Operand) => (p.1, a.eval p.2)).toList = l.map fun p => (p.1, p.2.val β) := by simpa using e
  have hfl := hfill β
  simp only [execOp, ho, Instr.build, Sem.run_bind, zeroValue, typeInfo, run_program, Result.andThen_ok, hi, hv, Sem.run_pure, underlying, hu, hm]
  have hfl2 : Instr.fill (fun x => pl.toArray[x]?) z.cells (ps.map fun (p : Nat × Operand) => (p.1, a.eval p.2)).toList = some (r.map (A.val β)).toArray := by
    rw [hparts, hc β]
    simpa using hfl
  rw [hfl2]
  rfl
theorem op_build_array {t e : TypeId} {n : Nat} {ps : Array (Nat × Operand)} {zs : List A} {l : List (Nat × V)} {q : TypeInfo} (ho : o.op = .build t ps) (hu : c.P.underlying t = some (.array n e)) (hz : zeros c.P t = some zs)
    (hp : partsx F ps.toList = some l) (hq : c.P.info? e = some q) (h : fillx c.P (fun i => some (i * q.size, q.size)) zs l fun cs => K (.g cs) H) : Pure c o F H K := by
  obtain ⟨q', z, hi, hv, hc, hok⟩ := zeros_sound hz
  obtain ⟨r, hk, hr, _, hfill⟩ := fillx_sound l zs h
  refine ⟨_, hk, fun β a w hf => ?_⟩
  obtain ⟨e', hl⟩ := partsx_sound hf hp
  refine ⟨V.fit_g (hr β _ hl (fun x hx => A.fit_of0 (hok x hx))), ?_⟩
  have hparts : (ps.map fun (p : Nat × Operand) => (p.1, a.eval p.2)).toList = l.map fun p => (p.1, p.2.val β) := by simpa using e'
  have hfl2 : Instr.fill (fun i => some (i * q.size, q.size)) z.cells (ps.map fun (p : Nat × Operand) => (p.1, a.eval p.2)).toList = some (r.map (A.val β)).toArray := by
    rw [hparts, hc β]
    exact hfill β
  simp only [execOp, ho, Instr.build, Sem.run_bind, zeroValue, typeInfo, run_program, Result.andThen_ok, hi, hv, Sem.run_pure, underlying, hu, sizeOf, hq, hfl2]
  rfl

theorem repl_ok {β : Num} {m : Nat} {zs : List A} (hz : ∀ x ∈ zs, x.fit β m) (n : Nat) : ∀ x ∈ repl zs n, x.fit β m := by
  intro x hx
  unfold repl at hx
  split at hx
  · obtain ⟨_, rfl⟩ := List.mem_replicate.1 hx
    exact hz _ (by simp)
  · obtain ⟨i, _, rfl⟩ := List.mem_map.1 hx
    rw [List.getD_eq_getElem?_getD]
    cases h : zs[i % zs.length]? with
    | none => exact ⟨trivial, trivial⟩
    | some y => exact hz y (List.mem_of_getElem? h)
theorem repl_length (zs : List A) (n : Nat) : (repl zs n).length = n := by
  unfold repl
  split <;> simp
theorem repl_val {zs : List A} (hz : zs.length ≠ 0) (n : Nat) {zv : Array Value} (hv : zv = (zs.map (A.val β)).toArray) :
    (Array.range n).map (fun i => zv[i % zv.size]!) = ((repl zs n).map (A.val β)).toArray := by
  subst hv
  apply Array.ext_getElem?
  intro i
  unfold repl
  split
  · rename_i z
    simp only [Array.getElem?_map, List.map_replicate, List.getElem?_toArray, List.getElem?_replicate]
    by_cases hi : i < n
    · simp [hi, Nat.mod_one]
    · simp [hi]
  · simp only [Array.getElem?_map, List.getElem?_toArray, List.getElem?_map]
    by_cases hi : i < n
    · have hlt : i % zs.length < zs.length := Nat.mod_lt _ (by omega)
      simp [hi, hlt]
    · simp [hi]
theorem op_buildSlice {t e : TypeId} {n : Nat} {ps : Array (Nat × Operand)} {zs : List A} {l : List (Nat × V)} {q : TypeInfo} (ho : o.op = .buildSlice t n ps) (hu : c.P.underlying t = some (.slice e)) (hp : partsx F ps.toList = some l)
    (hq : c.P.info? e = some q) (hz : zeros c.P e = some zs)
    (h : needx (decide (n * q.size ≤ 16777216) && zs.length == q.size && q.size != 0)
        (fillx c.P (fun i => some (i * q.size, q.size)) (repl zs (n * q.size)) l fun cs => K (.a (.slc H.length 0 n n)) (H ++ [.cells cs e false]))) : OpOK c o F H K := by
  obtain ⟨hb, h⟩ := needx_elim h
  simp only [Bool.and_eq_true, decide_eq_true_eq, beq_iff_eq, bne_iff_ne, ne_eq] at hb
  obtain ⟨q', z, hi, hv, hc, hok⟩ := zeros_sound hz
  intro β a w hw hf
  obtain ⟨r, hk, hr, _, hfill⟩ := fillx_sound l _ h
  refine OpOK.new hk (fun β a w hw hf => ⟨hr β _ (partsx_sound hf hp).2 (repl_ok (fun x hx => A.fit_of0 (hok x hx)) _), fit_news, ?_⟩) β a w hw hf
  obtain ⟨e', _⟩ := partsx_sound hf hp
  have hparts : (ps.map fun (p : Nat × Operand) => (p.1, a.eval p.2)).toList = l.map fun p => (p.1, p.2.val β) := by simpa using e'
  have hne : zs.length ≠ 0 := by rw [hb.1.2]; exact hb.2
  have hfl2 : Instr.fill (fun i => some (i * q.size, q.size)) ((repl zs (n * q.size)).map (A.val β)).toArray (ps.map fun (p : Nat × Operand) => (p.1, a.eval p.2)).toList = some (r.map (A.val β)).toArray := by
    rw [hparts]
    exact hfill β
  have hsz : ¬ n * q.size > 2 ^ 24 := by omega
  simp only [execOp, ho, Instr.buildSlice, Sem.run_bind, underlying, run_program, Result.andThen_ok, hu, Sem.run_pure, sizeOf, typeInfo, hq, if_neg hsz, Sem.run_ite]
  by_cases h0 : n * q.size = 0
  · have hcells : (Array.range (n * q.size)).map (fun i => (#[] : Array Value)[i % (#[] : Array Value).size]!) = ((repl zs (n * q.size)).map (A.val β)).toArray := by
      rw [h0]
      have : repl zs 0 = [] := List.eq_nil_of_length_eq_zero (repl_length _ _)
      simp [this]
    rw [if_pos h0, hcells, hfl2]
    simp [newRow, V.val_a, A.val_slc, adr_new]
  · have hcells := repl_val (β := β) hne (n * q.size) (hc β)
    rw [if_neg h0]
    simp only [zeroValue, typeInfo, Sem.run_bind, run_program, Result.andThen_ok, hi, hv, Sem.run_pure]
    rw [hcells, hfl2]
    simp [newRow, V.val_a, A.val_slc, adr_new]
end opers
end Go.Eng
/- The engine, part 6: slices, builtins, calls. -/
set_option linter.unusedVariables false
namespace Go.Eng
section opers
variable {c : Ctx} {o : Oper} {β : Num} {F : Frm} {H : Hp} {a : Act} {w : World} {K : V → Hp → Prop}

theorem bndx_sound {X : Option Operand} {d y : Nat} {K : Nat → Prop} (h : bndx F X d y K) :
    (X = none ∧ K d) ∨ ∃ x k i, X = some x ∧ rho F x = some (.a (.int k i)) ∧ 0 ≤ i ∧ i ≤ y ∧ K i.toNat := by
  unfold bndx at h
  split at h
  · exact .inl ⟨rfl, h⟩
  · rename_i x
    split at h
    · rename_i k i hx
      obtain ⟨hb, h⟩ := needx_elim h
      have hb' := of_decide_eq_true hb
      exact .inr ⟨x, k, i, rfl, hx, hb'.1, hb'.2, h⟩
    · exact h.elim
theorem run_bound {P : Program} {w : World} {k : IntKind} {i : Int} {y : Nat} {code : BoundsCode} (h0 : 0 ≤ i) (h1 : i ≤ y) : (Instr.sliceBound (.int k i) y code).run P w = .ok i.toNat w := by
  simp [Instr.sliceBound, asIntOf, h0, h1]
/-- The three bounds of a slice expression. -/
theorem bounds_sound (c : Ctx) {lo hi mx : Option Operand} {n cap : Nat} {s : Bool} {K : Nat → Nat → Nat → Prop}
    (h : bndx F mx cap cap fun m => bndx F hi n m fun h => needx (!(hi.isNone && mx.isSome)) (bndx F lo 0 h fun l => K l h m)) :
    ∃ l h m, K l h m ∧ (l ≤ h ∧ m ≤ cap ∧ (h ≤ m ∨ h = n)) ∧ ∀ β a w P, FSat c β F H a → (Instr.sliceBounds s n cap (lo.map a.eval) (hi.map a.eval) (mx.map a.eval)).run P w = .ok (l, h, m) w := by
  rcases bndx_sound h with ⟨rfl, h⟩ | ⟨x, k, i, rfl, hx, i0, i1, h⟩
  · rcases bndx_sound h with ⟨rfl, h⟩ | ⟨y, k, j, rfl, hy, j0, j1, h⟩
    · obtain ⟨_, h⟩ := needx_elim h
      rcases bndx_sound h with ⟨rfl, h⟩ | ⟨z, k, q, rfl, hz, q0, q1, h⟩
      · exact ⟨_, _, _, h, by omega, fun β a w P hf => by simp [Instr.sliceBounds]⟩
      · exact ⟨_, _, _, h, by omega, fun β a w P hf => by simp [Instr.sliceBounds, (rho_sound hf hz).1, V.val_a, A.val, run_bound q0 q1]⟩
    · obtain ⟨_, h⟩ := needx_elim h
      rcases bndx_sound h with ⟨rfl, h⟩ | ⟨z, k, q, rfl, hz, q0, q1, h⟩
      · exact ⟨_, _, _, h, by omega, fun β a w P hf => by simp [Instr.sliceBounds, (rho_sound hf hy).1, V.val_a, A.val, run_bound j0 j1]⟩
      · exact ⟨_, _, _, h, by omega, fun β a w P hf => by simp [Instr.sliceBounds, (rho_sound hf hy).1, V.val_a, A.val, (rho_sound hf hz).1, V.val_a, A.val, run_bound j0 j1, run_bound q0 q1]⟩
  · rcases bndx_sound h with ⟨rfl, h⟩ | ⟨y, k, j, rfl, hy, j0, j1, h⟩
    · obtain ⟨hb, h⟩ := needx_elim h
      simp at hb
    · obtain ⟨_, h⟩ := needx_elim h
      rcases bndx_sound h with ⟨rfl, h⟩ | ⟨z, k, q, rfl, hz, q0, q1, h⟩
      · exact ⟨_, _, _, h, by omega, fun β a w P hf => by simp [Instr.sliceBounds, (rho_sound hf hx).1, V.val_a, A.val, (rho_sound hf hy).1, V.val_a, A.val, run_bound i0 i1, run_bound j0 j1]⟩
      · exact ⟨_, _, _, h, by omega, fun β a w P hf => by simp [Instr.sliceBounds, (rho_sound hf hx).1, V.val_a, A.val, (rho_sound hf hy).1, V.val_a, A.val, (rho_sound hf hz).1, V.val_a, A.val, run_bound i0 i1, run_bound j0 j1, run_bound q0 q1]⟩
theorem op_slice {t : TypeId} {X : Operand} {lo hi mx : Option Operand} {x : V} (ho : o.op = .slice t X lo hi mx) (hx : rho F X = some x) (h : slicex c.P F t x lo hi mx fun r => K (.a r) H) : Pure c o F H K := by
  unfold slicex at h
  split at h
  · rename_i s hu
    split at h
    · have h' : bndx F none s.size s.size fun m => bndx F hi s.size m fun h => needx (!(hi.isNone && (none : Option Operand).isSome)) (bndx F lo 0 h fun l => K (.a (.str (s.extract l h))) H) := by
        simpa [bndx, needx] using h
      obtain ⟨l, h2, m, hk, hbd, hr⟩ := bounds_sound c (H := H) (s := false) h'
      refine ⟨_, hk, fun β a w hf => ⟨⟨trivial, trivial⟩, ?_⟩⟩
      have hx' := (rho_sound hf hx).1
      have hr := hr β a w c.P hf
      simp only [Option.map_none] at hr
      simp [execOp, ho, hx', V.val_a, A.val, Instr.sliceAt, Instr.slice, underlying, hu, hr]
    · exact h.elim
  · rename_i e b off n cap hu
    split at h
    · rename_i q hq
      obtain ⟨l, h2, m, hk, hbd, hr⟩ := bounds_sound c (H := H) (s := true) h
      refine ⟨_, hk, fun β a w hf => ?_⟩
      obtain ⟨hx', hok⟩ := rho_sound hf hx
      have hr := hr β a w c.P hf
      refine ⟨⟨hok.1, fun e => by have := hok.2 e; omega⟩, ?_⟩
      cases e : β b with
      | none =>
        obtain ⟨rfl, rfl⟩ := hok.2 e
        obtain rfl : m = 0 := by omega
        obtain rfl : h2 = 0 := by omega
        obtain rfl : l = 0 := by omega
        simp only [execOp, ho, hx', V.val_a, A.val, adr_none e, Instr.sliceAt, Instr.slice, underlying, Sem.run_bind, run_program, Result.andThen_ok, hu, Sem.run_pure, hr, sizeOf, typeInfo, hq]
        simp
      | some bb =>
        simp only [execOp, ho, hx', V.val_a, A.val, adr_some e, Instr.sliceAt, Instr.slice, underlying, Sem.run_bind, run_program, Result.andThen_ok, hu, Sem.run_pure, hr, sizeOf, typeInfo, hq]
        by_cases e : m = l <;> simp [e, add_none]
    · exact h.elim
  · rename_i e p n cap hu
    split at h
    · rename_i q hq
      obtain ⟨l, h2, m, hk, hbd, hr⟩ := bounds_sound c (H := H) (s := true) h
      refine ⟨_, hk, fun β a w hf => ?_⟩
      obtain ⟨hx', hok⟩ := rho_sound hf hx
      have hr := hr β a w c.P hf
      refine ⟨⟨trivial, trivial⟩, ?_⟩
      simp only [execOp, ho, hx', V.val_a, A.val, Instr.sliceAt, Instr.slice, underlying, Sem.run_bind, run_program, Result.andThen_ok, hu, Sem.run_pure, hr, sizeOf, typeInfo, hq]
      by_cases e : m = l <;> simp [e]
    · exact h.elim
  · rename_i e hu
    split at h
    · rename_i q hq
      obtain ⟨l, h2, m, hk, hbd, hr⟩ := bounds_sound c (H := H) (s := true) (K := fun l h m => needx (h == 0 && m == 0) (K (.a .nils) H)) h
      obtain ⟨hb, hk⟩ := needx_elim hk
      simp only [Bool.and_eq_true, beq_iff_eq] at hb
      refine ⟨_, hk, fun β a w hf => ?_⟩
      obtain ⟨hx', hok⟩ := rho_sound hf hx
      have hr := hr β a w c.P hf
      refine ⟨⟨trivial, trivial⟩, ?_⟩
      simp only [execOp, ho, hx', V.val_a, A.val, Instr.sliceAt, Instr.slice, underlying, Sem.run_bind, run_program, Result.andThen_ok, hu, Sem.run_pure, hr, sizeOf, typeInfo, hq, hb.1, hb.2]
      simp
    · exact h.elim
  · rename_i n e b off hu
    split at h
    · rename_i q hq
      obtain ⟨l, h2, m, hk, hbd, hr⟩ := bounds_sound c (H := H) (s := false) h
      refine ⟨_, hk, fun β a w hf => ?_⟩
      obtain ⟨hx', hok⟩ := rho_sound hf hx
      have hr := hr β a w c.P hf
      refine ⟨⟨hok.1, fun e => absurd e hok.2⟩, ?_⟩
      obtain ⟨bb, eb, _⟩ := adr_get hok.2 0
      simp only [execOp, ho, hx', V.val_a, A.val, adr_some eb, Instr.sliceAt, Instr.sureAddr, underlying, Sem.run_bind, run_program, Result.andThen_ok, hu, Sem.run_pure, hr, sizeOf, typeInfo, hq]
      by_cases e : m = l <;> simp [e, add_none]
    · exact h.elim
  · exact h.elim
theorem op_toPtr_slc {t : TypeId} {X : Operand} {n e b off l k : Nat} (ho : o.op = .sliceToArrayPointer t X) (hu : c.P.underlying t = some (.array n e)) (hx : rho F X = some (.a (.slc b off l k)))
    (h : needx (decide (n ≤ l) && Nat.ble 1 n) (K (.a (.ptr b off)) H)) : Pure c o F H K := by
  obtain ⟨hb, h⟩ := needx_elim h
  simp only [Bool.and_eq_true] at hb
  have hb' : ¬ l < n := by have := of_decide_eq_true hb.1; omega
  have hn := Nat.le_of_ble_eq_true hb.2
  refine ⟨_, h, fun β a w hf => ?_⟩
  obtain ⟨hx', hok⟩ := rho_sound hf hx
  have hne : β b ≠ none := fun e => by have := (hok.2 e).1; omega
  obtain ⟨bb, eb, _⟩ := adr_get hne 0
  refine ⟨⟨hok.1, hne⟩, ?_⟩
  simp [execOp, ho, hx', V.val_a, A.val, adr_some eb, Instr.arrayAt, underlying, hu, hb']
theorem op_toPtr_rslc {t : TypeId} {X : Operand} {n e l k : Nat} {p : Addr} (ho : o.op = .sliceToArrayPointer t X) (hu : c.P.underlying t = some (.array n e)) (hx : rho F X = some (.a (.rslc p l k)))
    (h : needx (decide (n ≤ l)) (K (.a (.rptr p)) H)) : Pure c o F H K := by
  obtain ⟨hb, h⟩ := needx_elim h
  have hb' : ¬ l < n := by have := of_decide_eq_true hb; omega
  refine ⟨_, h, fun β a w hf => ⟨⟨trivial, trivial⟩, ?_⟩⟩
  have hx' := (rho_sound hf hx).1
  simp [execOp, ho, hx', V.val_a, A.val, Instr.arrayAt, underlying, hu, hb']
theorem capsx_sound (hF : FSat c β F H a) : ∀ {l : List Operand} {qs : List (Nat × Nat)}, capsx F l = some qs → l.map a.eval = qs.map (fun q => Value.pointer (adr β q.1 q.2)) ∧ ∀ q ∈ qs, q.1 < H.length ∧ β q.1 ≠ none
  | [], qs, h => by simp only [capsx, Option.some.injEq] at h; subst h; simp
  | x :: l, qs, h => by
    simp only [capsx] at h
    split at h
    · rename_i i o r h1 h2
      simp only [Option.some.injEq] at h
      subst h
      obtain ⟨e1, o1⟩ := rho_sound hF h1
      obtain ⟨e2, o2⟩ := capsx_sound hF h2
      refine ⟨by simp [e1, e2, V.val_a, A.val_ptr], fun q hq => ?_⟩
      rcases List.mem_cons.1 hq with rfl | hq
      · exact o1
      · exact o2 q hq
    · cases h
theorem op_makeFunc {f : FuncId} {first caps : Array Operand} {l : List (Nat × Nat)} (ho : o.op = .makeFunc (.func f) first caps) (h1 : first.toList = []) (h2 : capsx F caps.toList = some l) (h : K (.a (.clo f l)) H) : Pure c o F H K := by
  refine ⟨_, h, fun β a w hf => ⟨⟨fun q hq => ((capsx_sound hf h2).2 q hq).1, fun q hq => ((capsx_sound hf h2).2 q hq).2⟩, ?_⟩⟩
  have e := (capsx_sound hf h2).1
  have e1 : first.map a.eval = #[] := by
    apply Array.toList_inj.1
    simp [h1]
  have e2 : caps.map a.eval = (l.map (fun q => Value.pointer (adr β q.1 q.2))).toArray := by
    apply Array.toList_inj.1
    simpa using e
  simp [execOp, ho, Instr.makeFunc, V.val_a, A.val, e1, e2]

theorem op_makeSlice {t : TypeId} {X Y : Operand} {l k : V} (ho : o.op = .makeSlice t X Y) (hx : rho F X = some l) (hy : rho F Y = some k) (h : makex c.P t l k H K) : OpOK c o F H K := by
  unfold makex at h
  split at h
  · rename_i e kl l kc m hu
    split at h
    · rename_i q hq
      obtain ⟨hb, h⟩ := needx_elim h
      unfold mkOK at hb
      have hb' := of_decide_eq_true hb
      obtain ⟨l0, lc, cm, bc⟩ := hb'
      split at h
      · rename_i zs hz
        obtain ⟨hb2, h⟩ := needx_elim h
        simp only [Bool.and_eq_true, beq_iff_eq, bne_iff_ne, ne_eq] at hb2
        obtain ⟨q', z, hi, hv, hc, hok⟩ := zeros_sound hz
        rw [hq] at hi
        obtain rfl := Option.some.inj hi
        refine .new h fun β a w hw hf => ⟨repl_ok (fun x hx => A.fit_of0 (hok x hx)) _, fit_news, ?_⟩
        have hx' := (rho_sound hf hx).1
        have hy' := (rho_sound hf hy).1
        have hne : zs.length ≠ 0 := by rw [hb2.1]; exact hb2.2
        have wl : IntKind.i64.wrap l = l := by simp only [IntKind.wrap, IntKind.bits, IntKind.signed, Bool.true_and]; split <;> simp_all <;> omega
        have wm : IntKind.i64.wrap m = m := by simp only [IntKind.wrap, IntKind.bits, IntKind.signed, Bool.true_and]; split <;> simp_all <;> omega
        simp only [execOp, ho, hx', hy', V.val_a, A.val, Instr.makeSlice, underlying, Sem.run_bind, run_program, Result.andThen_ok, hu, Sem.run_pure, asInt, asIntOf, typeInfo, hq, wl, wm]
        rw [if_neg (by simp; omega)]
        simp only [Sem.run_bind, run_askRoom, Result.andThen_ok, sizeOf, typeInfo, run_program, hq, Sem.run_pure, Sem.run_ite]
        by_cases h0 : m.toNat * q.size = 0
        · have hcells : (Array.range (m.toNat * q.size)).map (fun i => (#[] : Array Value)[i % (#[] : Array Value).size]!) = ((repl zs (m.toNat * q.size)).map (A.val β)).toArray := by
            rw [h0]
            have : repl zs 0 = [] := List.eq_nil_of_length_eq_zero (repl_length _ _)
            simp [this]
          rw [if_pos h0, hcells]
          simp [newRow, adr_new]
        · have hcells := repl_val (β := β) hne (m.toNat * q.size) (hc β)
          rw [if_neg h0]
          simp only [zeroValue, typeInfo, Sem.run_bind, run_program, Result.andThen_ok, hq, hv, Sem.run_pure]
          rw [hcells]
          simp [newRow, adr_new]
      · exact h.elim
    · exact h.elim
  · exact h.elim
end opers
end Go.Eng
/- The engine, part 7: builtins, calls, all operations. -/
set_option linter.unusedVariables false
namespace Go.Eng
section opers
variable {c : Ctx} {o : Oper} {β : Num} {F : Frm} {H : Hp} {a : Act} {w : World} {K : V → Hp → Prop}

/-- A builtin's call. -/
theorem run_builtin_call {b : Builtin} {args ts : Array _} (ho : o.op = .call ⟨.builtin b, args, ts⟩) {vs : List V} (hF : FSat c β F H a) (hv : rhos F args.toList = some vs) :
    ∃ consts, (execOp a.eval o).run c.P w = (Go.builtin b ts o.type consts (vs.map (V.val β)).toArray).run c.P w := by
  have e := (rhos_sound hF hv).1
  have e2 : args.map a.eval = (vs.map (V.val β)).toArray := by
    apply Array.toList_inj.1
    simpa using e
  refine ⟨args.map fun | .const _ => true | _ => false, ?_⟩
  simp only [execOp, ho, resolve, Sem.run_bind, Sem.run_pure, Result.andThen_ok, invoke, e2]
  rfl
theorem lenx_sound {ts : Array TypeId} {x : V} {K : V → Prop} (h : lenx c.P ts x K) (ty : TypeId) :
    ∃ r, K r ∧ r.ok 0 ∧ ∀ (w : World) (β : Num), (Builtin.len_ ts ty #[x.val β]).run c.P w = .ok (r.val β) w := by
  unfold lenx at h
  split at h
  · rename_i t ht
    split at h
    · rename_i s hu
      exact ⟨_, h, trivial, fun w β => by simp [Builtin.len_, ht, underlying, hu, V.val_a, A.val, goInt]⟩
    · rename_i n _ hu
      refine ⟨_, h, trivial, fun w β => ?_⟩
      simp only [Builtin.len_, ht]
      simp [underlying, hu, V.val_a, A.val, goInt]
    · rename_i x hu
      split at h
      · exact ⟨_, h, trivial, fun w β => by simp [Builtin.len_, ht, underlying, hu, V.val_a, A.val, goInt]⟩
      · exact ⟨_, h, trivial, fun w β => by simp [Builtin.len_, ht, underlying, hu, V.val_a, A.val, goInt]⟩
      · exact ⟨_, h, trivial, fun w β => by simp [Builtin.len_, ht, underlying, hu, V.val_a, A.val, goInt]⟩
      · exact h.elim
    · rename_i p hu
      split at h
      · rename_i n _ hu2
        refine ⟨_, h, trivial, fun w β => ?_⟩
        simp only [Builtin.len_, ht]
        simp [underlying, hu, hu2, V.val_a, A.val, goInt]
      · exact h.elim
    · exact h.elim
  · exact h.elim
theorem capx_sound {ts : Array TypeId} {x : V} {K : V → Prop} (h : capx c.P ts x K) (ty : TypeId) :
    ∃ r, K r ∧ r.ok 0 ∧ ∀ (w : World) (β : Num), (Builtin.cap_ ts ty #[x.val β]).run c.P w = .ok (r.val β) w := by
  unfold capx at h
  split at h
  · rename_i t ht
    split at h
    · rename_i x hu
      split at h
      · exact ⟨_, h, trivial, fun w β => by simp [Builtin.cap_, ht, underlying, hu, V.val_a, A.val, goInt]⟩
      · exact ⟨_, h, trivial, fun w β => by simp [Builtin.cap_, ht, underlying, hu, V.val_a, A.val, goInt]⟩
      · exact ⟨_, h, trivial, fun w β => by simp [Builtin.cap_, ht, underlying, hu, V.val_a, A.val, goInt]⟩
      · exact h.elim
    · exact h.elim
  · exact h.elim

/-- What append and copy read. -/
theorem srcx_sound (hw : WSat c β H w) {x : A} {n size : Nat} {K : List A → Prop} (hg : x.gh β) (hx : ∀ m, lenA x = some m → n ≤ m) (h : srcx c.ro H x n size K) :
    ∃ xs : List A, K xs ∧ xs.length = n * size ∧ (∀ y ∈ xs, y.fit β H.length) ∧ ∀ d, (Builtin.firstCells size n (x.val β)).run c.P { w with drawn := d } = .ok (xs.map (A.val β)).toArray { w with drawn := d } := by
  unfold srcx at h
  split at h
  · rename_i s
    obtain ⟨hb, h⟩ := needx_elim h
    have hb' : size = 1 := by simpa using hb
    have hn : n ≤ s.size := hx s.size rfl
    refine ⟨_, h, ?_, u8s_fit _ _ _, fun d => ?_⟩
    · have hs : s.data.toList.length = s.size := rfl
      simp only [u8s, List.length_map, List.length_take, hs, hb']
      omega
    · simp only [Builtin.firstCells, A.val, Sem.run_pure, u8s_val]
      congr 1
      apply Array.toList_inj.1
      have : (s.extract 0 n).data.toList = s.data.toList.take n := by
        simp [ByteArray.data_extract]
      simp
  · obtain ⟨xs, hk, hl, hrows⟩ := rowx_sound h
    obtain ⟨hok, hrow⟩ := hrows β w hw hg
    refine ⟨xs, hk, hl, hok, fun d => ?_⟩
    rcases hrow with ⟨hv, h0⟩ | ⟨p, l, k, hv, hc⟩
    · have : xs = [] := List.eq_nil_of_length_eq_zero (by omega)
      subst this
      rw [hv]
      simp [Builtin.firstCells]
    · have := run_loadRow (P := c.P) (w := { w with drawn := d }) hc
      rw [hl] at this
      simp only [hv, Builtin.firstCells, this]
theorem lenOf_sound {x : A} {n : Nat} (h : lenA x = some n) (P : Program) (w : World) : (Builtin.lenOf (x.val β)).run P w = .ok n w := by
  cases x <;> simp only [lenA, Option.some.injEq, reduceCtorEq] at h <;> subst h <;> simp [A.val, Builtin.lenOf]
theorem zeroCells_val {zs : List A} (hz : zs.length ≠ 0) {zv : Array Value} (hv : zv = (zs.map (A.val β)).toArray) (n : Nat) : Builtin.zeroCells zv n = ((repl zs (n * zs.length)).map (A.val β)).toArray := by
  unfold Builtin.zeroCells
  have := repl_val (β := β) hz (n * zs.length) hv
  rw [← this, hv]
  simp

/-- A row of cells is written into a block. -/
theorem keep_row (hw : WSat c β H w) {i off : Nat} {cs xs : List A} {ty : TypeId} {mk : Bool} (hb : H[i]? = some (.cells cs ty mk)) (e : β i = none) (hl : off + xs.length ≤ cs.length) :
    xs = [] ∧ Mv c β H w β (H.set i (.cells (storeL cs off xs) ty mk)) w := by
  have hbr : cs = [] := hw.bare i _ hb e
  subst hbr
  have hxs : xs = [] := by cases xs with | nil => rfl | cons x l => simp at hl
  subst hxs
  refine ⟨rfl, ?_⟩
  have : H.set i (.cells (storeL [] off []) ty mk) = H := by
    apply List.ext_getElem?
    intro j
    by_cases hj : i = j
    · subst hj; rw [List.getElem?_set_self (hw.lenOf hb), hb]; rfl
    · rw [List.getElem?_set_ne hj]
  rw [this]
  exact Mv.refl hw
theorem store_row (hw : WSat c β H w) {i bb off : Nat} (eb : β i = some bb) {cs xs : List A} {ty : TypeId} {mk : Bool} (hb : H[i]? = some (.cells cs ty mk)) (hl : off + xs.length ≤ cs.length) (hok : ∀ x ∈ xs, x.fit β H.length) :
    ∃ w', (storeCells ⟨bb, off, none⟩ (xs.map (A.val β))).run c.P w = .ok () w' ∧ Mv c β H w β (H.set i (.cells (storeL cs off xs) ty mk)) w' := by
  obtain ⟨w', hr, ho, hs, hbb, hkk⟩ := run_storeCells (P := c.P) (off := off) xs w cs 0 (by simpa [Ob.obj] using hw.blk i bb _ hb eb) (by omega)
  refine ⟨w', hr, hw.setBlk (hw.lenOf hb) (.cells (storeL cs off xs) ty mk) (Ob.fit_cells (storeL_ok _ _ _ (hw.ok_cells hb) hok)) (fun e => by rw [eb] at e; cases e) ho hs (fun b' eb' => ?_) (fun k hk' => hkk k fun e => hk' (by rw [eb, e]))⟩
  rw [eb] at eb'; injection eb' with eb'; subst eb'
  simpa [Ob.obj, storeL_length] using hbb

/-- The call's whole effect, said once. -/
def Does (c : Ctx) (β : Num) (H : Hp) (w : World) (s : Sem Value) (K : V → Hp → Prop) : Prop :=
  ∃ v H' β' w', K v H' ∧ v.fit β' H'.length ∧ Mv c β H w β' H' w' ∧ s.run c.P w = .ok (v.val β') w'
theorem append_fits {P : Program} {ts : Array TypeId} {ty t u e : TypeId} {d : TypeDesc} {q : TypeInfo} (ht : ts[0]? = some t) (htu : ts[1]? = some u) (hu : P.underlying t = some (.slice e)) (hd : P.underlying u = some d)
    (hdz : isIntD d = false) (hq : P.info? e = some q) {A0 : Option Addr} {n cap m : Nat} {y : Value} (hlo : (Builtin.lenOf y).run P w = .ok m w) (hle : n + m ≤ cap) {xs : Array Value} (hf : (Builtin.firstCells q.size m y).run P w = .ok xs w) :
    (Builtin.append_ ts ty #[.slice A0 n cap, y]).run P w = match A0 with
      | some p => ((storeCells (p.add (n * q.size)) xs.toList).run P w).andThen fun _ w' => .ok (.slice A0 (n + m) cap) w'
      | none => .ok (.slice A0 (n + m) cap) w := by
  unfold Builtin.append_
  simp only [List.getElem?_toArray, List.getElem?_cons_zero, List.getElem?_cons_succ, ht, htu]
  cases d
  case int => simp [isIntD] at hdz
  all_goals
      (simp only [Sem.run_bind, underlying, run_program, Result.andThen_ok, hu, hd, Sem.run_pure, sizeOf, typeInfo, hq, Bool.false_eq_true, if_false, hlo, Sem.run_ite, if_pos hle, Bool.not_false, if_true, hf]
       cases A0 with
       | none => rfl
       | some p => simp only [Sem.run_bind, Sem.run_pure])
theorem append_grows {P : Program} {ts : Array TypeId} {ty t u e : TypeId} {d : TypeDesc} {q : TypeInfo} (ht : ts[0]? = some t) (htu : ts[1]? = some u) (hu : P.underlying t = some (.slice e)) (hd : P.underlying u = some d)
    (hdz : isIntD d = false) (hq : P.info? e = some q) (hqb : q.bytes ≠ 0) {z : Value} (hz : q.zero = some z) {A0 : Option Addr} {n cap m : Nat} {y : Value} (hlo : (Builtin.lenOf y).run P w = .ok m w) (hle : ¬ n + m ≤ cap)
    (hb : (n + m) * q.bytes ≤ 140737488355328) {old new : Array Value}
    (ho : ∀ d, (Builtin.firstCells q.size n (.slice A0 n cap)).run P { w with drawn := d } = .ok old { w with drawn := d }) (hf : ∀ d, (Builtin.firstCells q.size m y).run P { w with drawn := d } = .ok new { w with drawn := d }) :
    ∃ cap', n + m ≤ cap' ∧ (Builtin.append_ ts ty #[.slice A0 n cap, y]).run P w =
      .ok (.slice (some ⟨w.heap.size, 0, none⟩) (n + m) cap') { (w.alloc (.cells (old ++ new ++ Builtin.zeroCells z.cells (cap' - (n + m))) e)) with drawn := w.drawn + 1 } := by
  refine ⟨(n + m) + w.tape w.drawn (.appendCap (n + m) cap e) % (2 ^ 63 - (n + m)), Nat.le_add_right _ _, ?_⟩
  generalize hc : (n + m) + w.tape w.drawn (.appendCap (n + m) cap e) % (2 ^ 63 - (n + m)) = cap'
  have hg := growslice_fits (need := n + m) (old := cap) (bytes := q.bytes) (by omega) hb
  have hg' : ¬ Builtin.nextslicecap (n + m) cap * q.bytes > 2 ^ 48 := by omega
  have h1 := ho (w.drawn + 1)
  have h2 := hf (w.drawn + 1)
  unfold Builtin.append_
  simp only [List.getElem?_toArray, List.getElem?_cons_zero, List.getElem?_cons_succ, ht, htu]
  cases d
  case int => simp [isIntD] at hdz
  all_goals
      (simp only [Sem.run_bind, underlying, run_program, Result.andThen_ok, hu, hd, Sem.run_pure, sizeOf, typeInfo, hq, Bool.false_eq_true, if_false, hlo, Sem.run_ite, if_neg hle, Bool.not_false, if_true]
       rw [if_neg (by simp [hqb])]
       simp only [Sem.run_bind, run_program, Result.andThen_ok, hq, Sem.run_pure, if_neg hg', run_choose, Question.forced, Bool.false_eq_true, if_false, Question.cut, hc, run_askRoom, h1, h2, zeroValue, typeInfo, hz, newRow, run_newObj]
       rfl)
theorem append_sound (hw : WSat c β H w) {ts : Array TypeId} {ty : TypeId} {x y : A} (hx : x.fit β H.length) (hy : y.gh β) (h : appendx c.P c.ro ts H x y K) : Does c β H w (Builtin.append_ ts ty #[x.val β, y.val β]) K := by
  unfold appendx at h
  split at h
  · rename_i t u ht htu
    split at h
    · rename_i e d hu hd
      obtain ⟨hnz, h⟩ := needx_elim h
      have hdz : isIntD d = false := by simpa using hnz
      split at h
      · rename_i q zs m hq hz hm
        obtain ⟨hb, h⟩ := needx_elim h
        simp only [Bool.and_eq_true, beq_iff_eq, bne_iff_ne, ne_eq] at hb
        obtain ⟨q', z, hi, hv, hc, hok⟩ := zeros_sound hz
        rw [hq] at hi
        obtain rfl := Option.some.inj hi
        have hne : zs.length ≠ 0 := by rw [hb.1.1]; exact hb.1.2
        have hle0 : ∀ m', lenA y = some m' → m ≤ m' := fun m' hm' => by rw [hm] at hm'; injection hm' with e; omega
        obtain ⟨new, h, hlen, hnok, hnewd⟩ := srcx_sound hw hy hle0 h
        have hnew := hnewd w.drawn
        have hlo := lenOf_sound (β := β) hm c.P w
        have hzc : ∀ k, Builtin.zeroCells z.cells k = ((repl zs (k * q.size)).map (A.val β)).toArray := fun k => by
          have := zeroCells_val (β := β) hne (hc β) k
          rwa [hb.1.1] at this
        have hzok : ∀ k, ∀ x ∈ repl zs k, x.fit β H.length := fun k => repl_ok (fun x hx => A.fit_of0 (hok x hx)) k
        cases x with
        | nils =>
          cases m with
          | zero =>
            refine ⟨_, _, _, _, h, ⟨trivial, trivial⟩, Mv.refl hw, ?_⟩
            rw [show A.val β .nils = .slice none 0 0 from rfl, append_fits ht htu hu hd hdz hq hlo (by omega) hnew]
            rfl
          | succ m =>
            obtain ⟨hbd, h⟩ := needx_elim h
            have hbd' := of_decide_eq_true hbd
            have hold : ∀ d, (Builtin.firstCells q.size 0 (.slice none 0 0)).run c.P { w with drawn := d } = .ok #[] { w with drawn := d } := fun d => by simp [Builtin.firstCells]
            obtain ⟨cap', hcap, hr⟩ := append_grows (ty := ty) ht htu hu hd hdz hq hb.2 hv (A0 := none) (n := 0) (cap := 0) hlo (by omega) (by simpa using hbd'.1) hold hnewd
            have mv := hw.alloc (.cells (new ++ repl zs ((cap' - (m + 1)) * q.size)) e false) (Ob.fit_cells fun x hx => by
              rcases List.mem_append.1 hx with hx | hx
              · exact hnok x hx
              · exact hzok _ x hx)
            refine ⟨_, _, _, _, h cap' (by omega), by simpa using fit_news (β := β), mv.tick (w.drawn + 1), ?_⟩
            rw [show A.val β .nils = .slice none 0 0 from rfl, hr, hzc]
            simp [V.val_a, A.val_slc, adr_new, Ob.obj, fz]
        | slc b off n cap =>
          simp only at h
          split at h
          · rename_i cs ty' mk hbk
            rcases condx_elim h with ⟨hle, h⟩ | ⟨hle, h⟩
            · have hle' : n + m ≤ cap := of_decide_eq_true hle
              obtain ⟨hbd, h⟩ := needx_elim h
              have hbd' : off + n * q.size + new.length ≤ cs.length := of_decide_eq_true hbd
              cases eb : β b with
              | none =>
                obtain ⟨rfl, rfl⟩ := hx.2 eb
                obtain ⟨hnil, mv⟩ := keep_row hw hbk eb hbd'
                obtain rfl : m = 0 := by omega
                refine ⟨_, _, _, w, h, ⟨by simpa [V.ok, A.ok] using hw.lenOf hbk, fun _ => ⟨rfl, rfl⟩⟩, mv, ?_⟩
                rw [A.val_slc, adr_none eb, append_fits ht htu hu hd hdz hq hlo hle' hnew]
                simp [V.val_a, A.val_slc, adr_none eb]
              | some bb =>
                obtain ⟨w', hr, mv⟩ := store_row hw eb hbk hbd' hnok
                refine ⟨_, _, _, w', h, ⟨by simpa [V.ok, A.ok] using hw.lenOf hbk, fun e => by rw [eb] at e; cases e⟩, mv, ?_⟩
                rw [A.val_slc, adr_some eb, append_fits ht htu hu hd hdz hq hlo hle' hnew]
                simp only [add_none]
                rw [hr]
                simp [V.val_a, A.val_slc, adr_some eb]
            · have hle' : ¬ n + m ≤ cap := of_decide_eq_false hle
              obtain ⟨hbd, h⟩ := needx_elim h
              have hbd' := of_decide_eq_true hbd
              have hold : ∀ d, (Builtin.firstCells q.size n (.slice (adr β b off) n cap)).run c.P { w with drawn := d } = .ok (((cs.take (off + n * q.size)).drop off).map (A.val β)).toArray { w with drawn := d } := fun d => by
               cases eb : β b with
               | none =>
                obtain ⟨rfl, rfl⟩ := hx.2 eb
                have hbr : cs = [] := hw.bare b _ hbk eb
                simp [Builtin.firstCells, hbr, adr_none eb]
               | some bb =>
                have := run_loadRow (P := c.P) (w := { w with drawn := d }) (xs := (cs.take (off + n * q.size)).drop off) (p := ⟨bb, off, none⟩) (β := β) (fun j y hy => by
                  rw [add_none]
                  exact (hw.tick d).cell hbk eb (getElem_slice hy))
                rw [length_slice hbd'.1] at this
                simp only [Builtin.firstCells, adr_some eb, this]
              obtain ⟨cap', hcap, hr⟩ := append_grows (ty := ty) ht htu hu hd hdz hq hb.2 hv hlo hle' hbd'.2.1 hold hnewd
              have mv := hw.alloc (.cells ((cs.take (off + n * q.size)).drop off ++ new ++ repl zs ((cap' - (n + m)) * q.size)) e false) (Ob.fit_cells fun x hx => by
                rcases List.mem_append.1 hx with hx | hx
                · rcases List.mem_append.1 hx with hx | hx
                  · exact ok_slice (hw.ok_cells hbk) x hx
                  · exact hnok x hx
                · exact hzok _ x hx)
              refine ⟨_, _, _, _, h cap' hcap, by simpa using fit_news (β := β), mv.tick (w.drawn + 1), ?_⟩
              rw [A.val_slc, hr, hzc]
              simp [V.val_a, A.val_slc, adr_new, Ob.obj, fz]
          · exact h.elim
        | _ => exact h.elim
      · exact h.elim
    · exact h.elim
  · exact h.elim
end opers
end Go.Eng
/- The engine, part 8: copy, clear, calls; all operations; regions. -/
set_option linter.unusedVariables false
namespace Go.Eng
section opers
variable {c : Ctx} {o : Oper} {β : Num} {F : Frm} {H : Hp} {a : Act} {w : World} {K : V → Hp → Prop}

theorem copy_sound (hw : WSat c β H w) {ts : Array TypeId} {ty : TypeId} {x y : A} (gx : x.gh β) (gy : y.gh β) (h : copyx c.P c.ro ts H x y K) : Does c β H w (Builtin.copy_ ts ty #[x.val β, y.val β]) K := by
  unfold copyx at h
  split at h
  · rename_i t ht
    split at h
    · rename_i e hu
      split at h
      · rename_i q d m hq hd hm
        obtain ⟨new, h, hlen, hnok, hnewd⟩ := srcx_sound hw gy (fun m' hm' => by rw [hm] at hm'; injection hm' with e; rw [← e]; exact Nat.min_le_left m d) h
        have hnew := hnewd w.drawn
        have hlo := lenOf_sound (β := β) hm c.P w
        have go : ∀ A0 cap, x.val β = .slice A0 d cap → (Builtin.copy_ ts ty #[x.val β, y.val β]).run c.P w =
            (match A0 with
              | some p => ((storeCells p (new.map (A.val β))).run c.P w).andThen fun _ w' => .ok (.int .i64 (Nat.min m d : Nat)) w'
              | none => .ok (.int .i64 (Nat.min m d : Nat)) w) := by
          intro A0 cap hx
          rw [hx]
          unfold Builtin.copy_
          simp only [List.getElem?_toArray, List.getElem?_cons_zero, List.getElem?_cons_succ, ht]
          simp only [Sem.run_bind, underlying, run_program, Result.andThen_ok, hu, Sem.run_pure, sizeOf, typeInfo, hq, hlo, hnew]
          cases A0 with
          | none => rfl
          | some p => simp only [Sem.run_bind, Sem.run_pure, goInt]
        cases x with
        | nils =>
          simp only [lenA, Option.some.injEq] at hd
          subst hd
          refine ⟨_, _, _, w, h, ⟨trivial, trivial⟩, Mv.refl hw, ?_⟩
          rw [go none 0 rfl]
          rfl
        | slc b off n cap =>
          simp only [lenA, Option.some.injEq] at hd
          subst hd
          simp only at h
          split at h
          · rename_i cs ty' mk hbk
            obtain ⟨hbd, h⟩ := needx_elim h
            have hbd' : off + new.length ≤ cs.length := of_decide_eq_true hbd
            cases eb : β b with
            | none =>
              obtain ⟨hnil, mv⟩ := keep_row hw hbk eb hbd'
              refine ⟨_, _, _, w, h, ⟨trivial, trivial⟩, mv, ?_⟩
              rw [go none cap (by rw [A.val_slc, adr_none eb])]
              rfl
            | some bb =>
              obtain ⟨w', hr, mv⟩ := store_row hw eb hbk hbd' hnok
              refine ⟨_, _, _, w', h, ⟨trivial, trivial⟩, mv, ?_⟩
              rw [go (some ⟨bb, off, none⟩) cap (by rw [A.val_slc, adr_some eb])]
              simp only [hr]
              rfl
          · exact h.elim
        | _ => exact h.elim
      · exact h.elim
    · exact h.elim
  · exact h.elim
theorem clear_sound (hw : WSat c β H w) {ts : Array TypeId} {ty : TypeId} {x : A} (gx : x.gh β) (h : clearx c.P ts H x K) : Does c β H w (Builtin.clear_ ts ty #[x.val β]) K := by
  unfold clearx at h
  split at h
  · rename_i t ht
    split at h
    · rename_i e hu
      refine ⟨_, _, _, w, h, V.fit_t (fun x hx => by cases hx), Mv.refl hw, ?_⟩
      simp [Builtin.clear_, ht, underlying, hu, A.val, V.val]
    · rename_i e b off n cap hu
      split at h
      · refine ⟨_, _, _, w, h, V.fit_t (fun x hx => by cases hx), Mv.refl hw, ?_⟩
        cases ea : adr β b off <;> simp [Builtin.clear_, ht, underlying, hu, A.val, V.val, ea]
      · rename_i n
        split at h
        · rename_i q zs cs ty' mk hq hz hbk
          obtain ⟨hb, h⟩ := needx_elim h
          simp only [Bool.and_eq_true, beq_iff_eq, bne_iff_ne, ne_eq, decide_eq_true_eq] at hb
          obtain ⟨q', z, hi, hv, hc, hok⟩ := zeros_sound hz
          rw [hq] at hi
          obtain rfl := Option.some.inj hi
          have hne : zs.length ≠ 0 := by rw [hb.1.1]; exact hb.1.2
          have hzc := zeroCells_val (β := β) hne (hc β) (n + 1)
          rw [hb.1.1] at hzc
          obtain ⟨bb, eb, _⟩ := adr_get (β := β) (i := b) (fun e => by have := (gx e).1; omega) 0
          obtain ⟨w', hr, mv⟩ := store_row hw eb hbk (by rw [repl_length]; exact hb.2) (repl_ok (fun x hx => A.fit_of0 (hok x hx)) ((n + 1) * q.size))
          refine ⟨_, _, _, w', h, V.fit_t (fun x hx => by cases hx), mv, ?_⟩
          unfold Builtin.clear_
          simp only [List.getElem?_toArray, List.getElem?_cons_zero, ht]
          simp only [Sem.run_bind, underlying, run_program, Result.andThen_ok, hu, Sem.run_pure, A.val, adr_some eb, zeroValue, typeInfo, hq, hv, hzc, hr]
          rfl
        · exact h.elim
    · exact h.elim
  · exact h.elim

/-- Builtins that only look at a value. -/
def stillB : Builtin → Bool
  | .len | .cap | .max | .min | .complex | .real | .imag => true
  | _ => false
theorem op_builtin_still {b : Builtin} {args : Array Operand} {ts : Array TypeId} (ho : o.op = .call ⟨.builtin b, args, ts⟩) {vs : List V} (hv : rhos F args.toList = some vs) (hs : stillB b = true) (h : builtx c.P c.ro b ts vs H K) : Pure c o F H K := by
  unfold builtx at h
  split at h
  · rename_i x
    obtain ⟨r, hk, hok, hr⟩ := lenx_sound h o.type
    refine ⟨r, hk, fun β a w hf => ⟨V.fit_of0 hok, ?_⟩⟩
    obtain ⟨cs, he⟩ := run_builtin_call ho hf hv
    rw [he]
    have := hr w β
    simp [Go.builtin, this]
  · rename_i x
    obtain ⟨r, hk, hok, hr⟩ := capx_sound h o.type
    refine ⟨r, hk, fun β a w hf => ⟨V.fit_of0 hok, ?_⟩⟩
    obtain ⟨cs, he⟩ := run_builtin_call ho hf hv
    rw [he]
    have := hr w β
    simp [Go.builtin, this]
  · cases hs
  · cases hs
  · cases hs
  · rename_i k x k' y
    refine ⟨_, h, fun β a w hf => ⟨⟨trivial, trivial⟩, ?_⟩⟩
    obtain ⟨cs, he⟩ := run_builtin_call ho hf hv
    rw [he]
    simp [Go.builtin, Builtin.max_, Builtin.max2, V.val_a, A.val]
  · rename_i k x k' y
    refine ⟨_, h, fun β a w hf => ⟨⟨trivial, trivial⟩, ?_⟩⟩
    obtain ⟨cs, he⟩ := run_builtin_call ho hf hv
    rw [he]
    simp [Go.builtin, Builtin.min_, Builtin.min2, V.val_a, A.val]
  · rename_i k x k' y
    obtain ⟨h⟩ := h
    cases hc : k.format.order x y with
    | none => rw [hc] at h; exact h.elim
    | some d =>
      rw [hc] at h
      cases d <;>
        (refine ⟨_, h, fun β a w hf => ⟨⟨trivial, trivial⟩, ?_⟩⟩
         obtain ⟨cs, he⟩ := run_builtin_call ho hf hv
         rw [he]
         simp [Go.builtin, Builtin.max_, Builtin.max2, V.val_a, A.val, hc])
  · rename_i k x k' y
    obtain ⟨h⟩ := h
    cases hc : k.format.order x y with
    | none => rw [hc] at h; exact h.elim
    | some d =>
      rw [hc] at h
      cases d <;>
        (refine ⟨_, h, fun β a w hf => ⟨⟨trivial, trivial⟩, ?_⟩⟩
         obtain ⟨cs, he⟩ := run_builtin_call ho hf hv
         rw [he]
         simp [Go.builtin, Builtin.min_, Builtin.min2, V.val_a, A.val, hc])
  · rename_i k x k' y
    obtain ⟨hb, hk⟩ := needx_elim h
    have hb' : k = k' := of_decide_eq_true hb
    subst hb'
    refine ⟨_, hk, fun β a w hf => ⟨⟨trivial, trivial⟩, ?_⟩⟩
    obtain ⟨cs, he⟩ := run_builtin_call ho hf hv
    rw [he]
    cases k <;> rfl
  · refine ⟨_, h, fun β a w hf => ⟨⟨trivial, trivial⟩, ?_⟩⟩
    obtain ⟨cs, he⟩ := run_builtin_call ho hf hv
    rw [he]
    rfl
  · refine ⟨_, h, fun β a w hf => ⟨⟨trivial, trivial⟩, ?_⟩⟩
    obtain ⟨cs, he⟩ := run_builtin_call ho hf hv
    rw [he]
    rfl
  · rename_i x y
    rcases condx_elim h with ⟨hb, hk⟩ | ⟨hb, hk⟩
    · refine ⟨_, hk, fun β a w hf => ⟨⟨trivial, trivial⟩, ?_⟩⟩
      obtain ⟨cs, he⟩ := run_builtin_call ho hf hv
      rw [he]
      simp only [Bool.not_eq_true'] at hb
      simp [Go.builtin, Builtin.max_, Builtin.max2, V.val_a, A.val, Op.stringOp, Go.ByteArray.toList_eq, asBool, hb]
    · refine ⟨_, hk, fun β a w hf => ⟨⟨trivial, trivial⟩, ?_⟩⟩
      obtain ⟨cs, he⟩ := run_builtin_call ho hf hv
      rw [he]
      simp only [Bool.not_eq_false'] at hb
      simp [Go.builtin, Builtin.max_, Builtin.max2, V.val_a, A.val, Op.stringOp, Go.ByteArray.toList_eq, asBool, hb]
  · exact h.elim
theorem op_builtin {b : Builtin} {args : Array Operand} {ts : Array TypeId} (ho : o.op = .call ⟨.builtin b, args, ts⟩) {vs : List V} (hv : rhos F args.toList = some vs) (h : builtx c.P c.ro b ts vs H K) : OpOK c o F H K := by
  by_cases hs : stillB b = true
  · exact (op_builtin_still ho hv hs h).still.ok
  unfold builtx at h
  split at h
  · exact absurd rfl hs
  · exact absurd rfl hs
  · rename_i x y
    intro β a w hw hf next Q hn
    obtain ⟨cs, he⟩ := run_builtin_call ho hf hv
    obtain ⟨v, H', β', w', hk, hv', mv, hr⟩ := append_sound (ty := o.type) hw ((rhos_sound hf hv).2 (.a x) (by simp)) ((rhos_sound hf hv).2 (.a y) (by simp)).2 h
    have : (execOp a.eval o).run c.P w = .ok (.value (v.val β')) w' := by
      rw [he]
      simp only [Go.builtin, List.map_cons, List.map_nil, V.val_a, Sem.run_bind]
      rw [hr]
      rfl
    simp only [Oper.wp, this, Oper.upon]
    exact hn v H' β' w' hk hv' mv
  · rename_i x y
    intro β a w hw hf next Q hn
    obtain ⟨cs, he⟩ := run_builtin_call ho hf hv
    obtain ⟨v, H', β', w', hk, hv', mv, hr⟩ := copy_sound (ty := o.type) hw ((rhos_sound hf hv).2 (.a x) (by simp)).2 ((rhos_sound hf hv).2 (.a y) (by simp)).2 h
    have : (execOp a.eval o).run c.P w = .ok (.value (v.val β')) w' := by
      rw [he]
      simp only [Go.builtin, List.map_cons, List.map_nil, V.val_a, Sem.run_bind]
      rw [hr]
      rfl
    simp only [Oper.wp, this, Oper.upon]
    exact hn v H' β' w' hk hv' mv
  · rename_i x
    intro β a w hw hf next Q hn
    obtain ⟨cs, he⟩ := run_builtin_call ho hf hv
    obtain ⟨v, H', β', w', hk, hv', mv, hr⟩ := clear_sound (ty := o.type) hw ((rhos_sound hf hv).2 (.a x) (by simp)).2 h
    have : (execOp a.eval o).run c.P w = .ok (.value (v.val β')) w' := by
      rw [he]
      simp only [Go.builtin, List.map_cons, List.map_nil, V.val_a, Sem.run_bind]
      rw [hr]
      rfl
    simp only [Oper.wp, this, Oper.upon]
    exact hn v H' β' w' hk hv' mv
  · exact absurd rfl hs
  · exact absurd rfl hs
  · exact absurd rfl hs
  · exact absurd rfl hs
  · exact absurd rfl hs
  · exact absurd rfl hs
  · exact absurd rfl hs
  · exact absurd rfl hs
  · exact h.elim

/-- A contract, used at a call. -/
theorem Fn.use {P : Program} {ro : Addr → A → Prop} {f : FuncId} {args : List V} {K : V → Hp → Prop} (h : Fn P ro f args H K) (hP : c.P = P) (hro : c.ro = ro) (hw : WSat c β H w) (hok : ∀ v ∈ args, v.fit β H.length) :
    Calls P f (args.map (V.val β)).toArray w fun e w' => ∃ v H' β', K v H' ∧ e = .returned (v.val β') ∧ v.fit β' H'.length ∧ Mv c β H w β' H' w' := by
  subst hP hro
  replace h := h.run
  have roOK : RoOK c.ro β H.length w := by
    refine ⟨hw.ro.spot, hw.ro.ext, fun p x hx => hw.rcell hx, fun p x hx i hi => hw.rout hx hi⟩
  have hw' : WSat { P := c.P, ro := c.ro, n0 := H.length, β0 := β, w0 := w, nt := 0 } β H w :=
    ⟨hw.inj, hw.blk, hw.bare, hw.ok, fun _ _ => rfl, Nat.le_refl _, Fr.refl _ _ _, fun i b h1 h2 => absurd h2 (Nat.not_lt.2 h1), roOK⟩
  refine (h β w hok hw').mono ?_
  rintro e w' ⟨v, H', β', hk, he, hv, mv⟩
  refine ⟨v, H', β', hk, he, hv, ⟨?_, mv.agree, mv.len, mv.fr, mv.new⟩⟩
  have ms := mv.sat
  refine ⟨ms.inj, ms.blk, ms.bare, ms.ok, fun i hi => ?_, Nat.le_trans hw.n0 mv.len, ?_, fun i b hi hl e => ?_, hw.ro⟩
  · rw [mv.agree i (Nat.lt_of_lt_of_le hi hw.n0)]
    exact hw.base i hi
  · have f1 := hw.fr
    have f2 := ms.fr
    refine ⟨f2.os.trans f1.os, f2.tape.trans f1.tape, f2.output.trans f1.output, Nat.le_trans f1.size f2.size, fun k hk hn => ?_⟩
    have hne : ∀ i, i < H.length → β i ≠ some k := by
      intro i hi e
      rcases Nat.lt_or_ge i c.n0 with h' | h'
      · exact hn i h' (by rw [← hw.base i h']; exact e)
      · have := hw.new i k h' hi e; omega
    have := f2.keep k (Nat.lt_of_lt_of_le hk f1.size) hne
    exact this.trans (f1.keep k hk hn)
  · rcases Nat.lt_or_ge i H.length with h' | h'
    · rw [mv.agree i h'] at e
      exact hw.new i b hi h' e
    · exact Nat.le_trans hw.fr.size (ms.new i b h' hl e)
theorem op_call {f : Operand} {args : Array Operand} {ts : Array TypeId} (ho : o.op = .call ⟨.value f, args, ts⟩) {vs : List V} (hv : rhos F args.toList = some vs) {g : FuncId} {caps : List (Nat × Nat)} (hf : rho F f = some (.a (.clo g caps)))
    {fn : Func} (hfn : c.P.funcs[g]? = some fn) {body : Code} (hbody : fn.body = some body) (h : needx (fn.name != "runtime.NumGoroutine") (Fn c.P c.ro g (vs ++ caps.map fun q => .a (.ptr q.1 q.2)) H K)) : OpOK c o F H K := by
  obtain ⟨hb, h⟩ := needx_elim h
  simp only [bne_iff_ne, ne_eq] at hb
  intro β a w hw hF next Q hn
  obtain ⟨e, hok⟩ := rhos_sound hF hv
  obtain ⟨ef, hokf⟩ := rho_sound hF hf
  have e2 : args.map a.eval = (vs.map (V.val β)).toArray := by
    apply Array.toList_inj.1
    simpa using e
  have hnone : fn.body.isNone = false := by simp [hbody]
  have hname : (fn.name == "runtime.NumGoroutine") = false := by simpa using hb
  have hrun : (execOp a.eval o).run c.P w = .ok (.enter g ((vs ++ caps.map fun q => V.a (.ptr q.1 q.2)).map (V.val β)).toArray) w := by
    simp only [execOp, ho, resolve, Sem.run_bind, ef, V.val_a, A.val, Deferred.ofValue, Sem.run_pure, Result.andThen_ok, invoke, e2, callFunc, run_program, hfn, hname, hnone, Bool.false_eq_true, if_false]
    simp [V.val_a, A.val_ptr]
  simp only [Oper.wp, hrun, Oper.upon]
  refine (h.use rfl rfl hw ?_).mono ?_
  · intro v hv'
    rcases List.mem_append.1 hv' with hv' | hv'
    · exact hok v hv'
    · obtain ⟨q, hq, rfl⟩ := List.mem_map.1 hv'
      exact ⟨hokf.1 q hq, hokf.2 q hq⟩
  · rintro e w' ⟨v, H', β', hk, rfl, hv', mv⟩
    exact hn v H' β' w' hk hv' mv
theorem op_ext {f : Operand} {args : Array Operand} {ts : Array TypeId} (ho : o.op = .call ⟨.value f, args, ts⟩) {vs : List V} (hv : rhos F args.toList = some vs) {g : FuncId} (hf : rho F f = some (.a (.clo g [])))
    {fn : Func} (hfn : c.P.funcs[g]? = some fn) (hbody : fn.body = none) (h : extx c.P fn vs fun v => K v H) : OpOK c o F H K := by
  obtain ⟨hname, hnx, x, hx, h⟩ := h.run
  refine OpOK.valueD fun β a w hw hF => ?_
  obtain ⟨r, d, hk, hr, hrun⟩ := h β w
  refine ⟨r, d, hk, V.fit_of0 hr, ?_⟩
  obtain ⟨e, hok⟩ := rhos_sound hF hv
  obtain ⟨ef, hokf⟩ := rho_sound hF hf
  have e2 : args.map a.eval = (vs.map (V.val β)).toArray := by
    apply Array.toList_inj.1
    simpa using e
  have hnone : fn.body.isNone = true := by simp [hbody]
  have e3 : #[] ++ (vs.map (V.val β)).toArray ++ (List.map (fun (q : Nat × Nat) => Value.pointer (adr β q.1 q.2)) []).toArray = (vs.map (V.val β)).toArray := by simp
  simp only [execOp, ho, resolve, Sem.run_bind, ef, V.val_a, A.val, Deferred.ofValue, Sem.run_pure, Result.andThen_ok, invoke, e2, callFunc, run_program, hfn, hname, hnone, Bool.false_eq_true, if_false, if_true, run_mark, hnx, hx]
  rw [e3, hrun]
  rfl
/-- A range over a text begins. -/
theorem op_range {t : TypeId} {X : Operand} {s : ByteArray} (ho : o.op = .range t X) (hu : c.P.underlying t = some .string) (hx : rho F X = some (.a (.str s))) (h : K (.a (.ptr H.length 0)) (H ++ [.iter s 0])) : OpOK c o F H K := by
  intro β a w hw hf next Q hn
  have hx' := (rho_sound hf hx).1
  have hr : (execOp a.eval o).run c.P w = .ok (.value (.pointer (some ⟨w.heap.size, 0, none⟩))) (w.alloc (.stringIter s 0)) := by
    simp [execOp, ho, hx', V.val_a, A.val, Instr.range, underlying, hu]
  simp only [Oper.wp, hr, Oper.upon]
  have mv := hw.alloc (.iter s 0) ⟨trivial, trivial⟩
  have := hn (.a (.ptr H.length 0)) _ _ _ h (by simpa using fit_new (β := β)) mv
  simpa [V.val_a, A.val_ptr, adr_new, Ob.obj] using this
/-- Its next rune. -/
theorem op_next {X : Operand} {i : Nat} {s : ByteArray} {pos : Nat} (ho : o.op = .next X true) (hx : rho F X = some (.a (.ptr i 0))) (hb : H[i]? = some (.iter s pos))
    (h : condx (decide (pos < s.size)) (K (.t [.a (.bool true), .a (.int .i64 (pos : Int)), .a (.int .i32 (runeAt s pos : Nat))]) (H.set i (.iter s (pos + runeW s pos)))) (K (.t [.a (.bool false)]) H)) : OpOK c o F H K := by
  intro β a w hw hf next Q hn
  have hx' := (rho_sound hf hx).1
  have hgx := (rho_sound hf hx).2.2
  obtain ⟨bb, eb, ea⟩ := adr_get hgx 0
  have hbl := hw.blk i bb _ hb eb
  have hi := hw.lenOf hb
  rcases condx_elim h with ⟨hc, h⟩ | ⟨hc, h⟩
  · have hc' : pos < s.size := of_decide_eq_true hc
    have hlt := hw.lt hi eb
    have hr : (execOp a.eval o).run c.P w = .ok (.value (.tuple #[.bool true, .int .i64 (pos : Int), .int .i32 (runeAt s pos : Nat)])) { w with heap := w.heap.setIfInBounds bb (.stringIter s (pos + runeW s pos)) } := by
      unfold runeAt runeW
      simp [execOp, ho, hx', V.val_a, A.val, ea, Instr.next, getObj, setObj, Sem.run, hbl, Ob.obj, hc', goInt]
    have mv := hw.setBlk hi (.iter s (pos + runeW s pos)) ⟨trivial, trivial⟩ (fun e => by rw [eb] at e; cases e) (w' := { w with heap := w.heap.setIfInBounds bb (.stringIter s (pos + runeW s pos)) }) ⟨rfl, rfl, rfl⟩ (by simp) (fun b' eb' => by rw [eb] at eb'; injection eb' with eb'; subst eb'; simp [Ob.obj, hlt]) (fun k hk => by
      have hk' : bb ≠ k := fun e => hk (by rw [eb, e])
      simp [hk'])
    simp only [Oper.wp, hr, Oper.upon]
    have := hn _ _ _ _ h (V.fit_of0 (by simp [V.ok, E.ok, A.ok])) mv
    simpa [V.val, E.val, A.val] using this
  · have hc' : ¬ pos < s.size := of_decide_eq_false hc
    have hr : (execOp a.eval o).run c.P w = .ok (.value (.tuple #[.bool false])) w := by
      simp [execOp, ho, hx', V.val_a, A.val, ea, Instr.next, getObj, Sem.run, hbl, Ob.obj, hc']
    simp only [Oper.wp, hr, Oper.upon]
    have := hn _ _ _ _ h (V.fit_of0 (by simp [V.ok, E.ok, A.ok])) (Mv.refl hw)
    simpa [V.val, E.val, A.val] using this
end opers
end Go.Eng
/- The engine, part 9: an operation, a list of them, a region in whatever order. -/
set_option linter.unusedVariables false
namespace Go.Eng
section opers
variable {c : Ctx} {o : Oper} {β : Num} {F : Frm} {H : Hp} {a : Act} {w : World} {K : V → Hp → Prop}

/-- Operations that yield one value and leave the world alone. 'pure': whatever the memory holds. -/
def kindOf (P : Program) (F : Frm) (o : Oper) : Bool × Bool := match o.op with
  | .move _ | .assign _ | .pick _ _ _ | .fieldAddr _ _ _ | .field _ _ _ | .nilCheck _ | .indexAddr _ _ _ | .index _ _ _ | .extract _ _ | .unOp _ _ _
  | .build _ _ | .slice _ _ _ _ _ | .makeFunc _ _ _ | .sliceToArrayPointer _ _ => (true, true)
  | .load _ _ => (true, false)
  | .convert _ d _ => (convStill P d, false)
  | .binOp op _ x y _ => match rho F x, rho F y with
    | some u, some v => (!fltArith op u v, !fltArith op u v)
    | _, _ => (false, false)
  | .call c => match c.callee with
    | .builtin b => (stillB b, stillB b)
    | _ => (false, false)
  | _ => (false, false)

theorem opx_pure (h : opx c.P c.ro F H o K) (hs : (kindOf c.P F o).2 = true) : Pure c o F H K := by
  unfold opx at h
  split at h
  case h_1 x ho => exact op_move (.inl ho) h
  case h_2 x ho => exact op_move (.inr ho) h
  case h_3 x y z ho =>
    split at h
    · rename_i t hx; exact op_pick ho hx h
    · exact h.elim
  case h_6 t ps ho =>
    split at h
    · rename_i fs zs l hu hz hp
      split at h
      · rename_i pl hpl; exact op_build_struct ho hu hz hp hpl h
      · exact h.elim
    · rename_i n e zs l hu hz hp
      split at h
      · rename_i q hq; exact op_build_array ho hu hz hp hq h
      · exact h.elim
    · exact h.elim
  case h_10 x ho =>
    split at h
    · rename_i i off hx; exact op_nilCheck_ptr ho hx h
    · rename_i p hx; exact op_nilCheck_rptr ho hx h
    · exact h.elim
  case h_11 op t x y u ho =>
    split at h
    · rename_i p q hx hy
      refine op_bin_still ho hx hy ?_ h
      simp only [kindOf, ho, hx, hy] at hs
      simpa using hs
    · exact h.elim
  case h_12 op t x ho =>
    split at h
    · rename_i y hx; exact op_un ho hx h
    · exact h.elim
  case h_14 t x ho =>
    split at h
    · rename_i hu hx; exact op_toPtr_slc ho hu hx h
    · rename_i hu hx; exact op_toPtr_rslc ho hu hx h
    · exact h.elim
  case h_15 f first caps ho =>
    split at h
    · rename_i l h1 h2; exact op_makeFunc ho h1 h2 h
    · exact h.elim
  case h_17 t x lo hi mx ho =>
    obtain ⟨v, hv, h⟩ := optx_elim h
    exact op_slice ho hv h
  case h_18 t x f ho => exact op_field ho h
  case h_19 t x f ho =>
    split at h
    · rename_i cs fs hx hu
      split at h
      · rename_i g hg; exact op_fieldOf ho hx hu hg h
      · exact h.elim
    · exact h.elim
  case h_20 t x i ho =>
    split at h
    · rename_i v k n hx hi; exact op_indexAddr ho hx hi h
    · exact h.elim
  case h_21 t x i ho =>
    split at h
    · rename_i v k n hx hi; exact op_index ho hx hi h
    · exact h.elim
  case h_22 x i ho =>
    split at h
    · rename_i xs hx; exact op_extract ho hx h
    · exact h.elim
  case h_23 cl ho =>
    obtain ⟨callee, args, ts⟩ := cl
    unfold callx at h
    split at h
    · rename_i f args' hc hr
      simp only at hc
      subst hc
      simp [kindOf, ho] at hs
    · rename_i b args' hc hr
      simp only at hc
      subst hc
      simp only [kindOf, ho] at hs
      exact op_builtin_still ho hr hs h
    · exact h.elim
  all_goals (first | exact h.elim | (rename_i ho; simp [kindOf, ho] at hs))

theorem opx_still (h : opx c.P c.ro F H o K) (hs : (kindOf c.P F o).1 = true) : Still c o F H K := by
  by_cases hp : (kindOf c.P F o).2 = true
  · exact (opx_pure h hp).still
  · cases ho : o.op
    case load t x =>
      simp only [opx, ho] at h
      exact op_load ho h
    case convert s d x =>
      simp only [kindOf, ho] at hs
      simp only [opx, ho] at h
      split at h
      · rename_i y hx; exact op_conv_still ho hs hx h
      · exact h.elim
    case binOp op t x y u =>
      simp only [kindOf, ho] at hs hp
      cases hx : rho F x <;> simp only [hx] at hs hp <;> try (cases hs; done)
      cases hy : rho F y <;> simp only [hy] at hs hp <;> try (cases hs; done)
      exact absurd hs hp
    case call cl =>
      simp only [kindOf, ho] at hs hp
      cases hc : cl.callee <;> simp only [hc] at hs hp <;> first
        | (cases hs; done)
        | exact absurd hs hp
    all_goals (simp [kindOf, ho] at hs hp)

theorem opx_ok (h : opx c.P c.ro F H o K) : OpOK c o F H K := by
  by_cases hs : (kindOf c.P F o).1 = true
  · exact (opx_still h hs).ok
  unfold opx at h
  split at h
  case h_4 t ho => exact op_alloc ho h
  case h_5 t x ho =>
    split at h
    · rename_i v hx; exact op_box ho hx h
    · exact h.elim
  case h_7 t n ps ho =>
    split at h
    · rename_i e l hu hp
      split at h
      · rename_i q zs hq hz; exact op_buildSlice ho hu hp hq hz h
      · exact h.elim
    · exact h.elim
  case h_9 t x y ho =>
    split at h
    · rename_i p v hx hy; exact op_store ho hx hy h
    · exact h.elim
  case h_11 op t x y u ho =>
    split at h
    · rename_i p q hx hy; exact op_bin ho hx hy h
    · exact h.elim
  case h_13 s d x ho =>
    split at h
    · rename_i y hx; exact op_conv ho hx h
    · exact h.elim
  case h_16 t l k ho =>
    split at h
    · rename_i l' k' hl hk; exact op_makeSlice ho hl hk h
    · exact h.elim
  case h_23 cl ho =>
    obtain ⟨callee, args, ts⟩ := cl
    unfold callx at h
    split at h
    · rename_i f args' hc hr
      simp only at hc
      subst hc
      split at h
      · rename_i g caps hf
        split at h
        · rename_i fn hfn
          split at h
          · rename_i hbody; exact op_call ho hr hf hfn hbody h
          · rename_i hbody; exact op_ext ho hr hf hfn hbody h
          · exact h.elim
        · exact h.elim
      · exact h.elim
    · rename_i b args' hc hr
      simp only at hc
      subst hc
      exact op_builtin ho hr h
    · exact h.elim
  case h_24 t x ho =>
    split at h
    · rename_i s hu hx; exact op_range ho hu hx h
    · exact h.elim
  case h_25 x ho =>
    split at h
    · rename_i i hx
      split at h
      · rename_i s pos hb; exact op_next ho hx hb h
      · exact h.elim
    · exact h.elim
  all_goals (first | exact h.elim | (rename_i ho; simp [kindOf, ho] at hs))
end opers
end Go.Eng
