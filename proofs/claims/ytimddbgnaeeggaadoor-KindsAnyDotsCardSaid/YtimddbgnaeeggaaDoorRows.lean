/-
  NARROWER THAN 'FOR EVERY INPUT', by the rows' own cells (each row's printed sentence says how): KindsOrder: laid · KindsLattice: laid · KindsJoins: laid · KindsUp: laid · KindsReads: laid · KindsRunes: laid · KindsResolves: laid · KindsAnyDots: laid · KindsPrints: laid.
  DERIVED. THE GIVEN ROWS OF THIS SEAT. 9 by the template 'for every input the law returns true; each argument reads behind the call as it read before'; 0 by the template 'total and deterministic' (their statements: YtimddbgnaeeggaaDoorTotals.lean).
  GIVEN WITH THE SEED: the statements are not yours to turn. If you find one false, say at which input.
  Laid BY PROGRAM, IN A SANDBOX (cutbox-rows.mjs): the forced cells as the released guide's own fill.sh prints them over the translation c86c766cf4449984… (all of the seat's roots in one cut). By AI agents, Wed Nov 11 2026. No macro, syntax, notation, axiom, sorry.
-/
import Derived.Test.YtimddbgnaeeggaaDoorChecked
import GoSem.PinnedTables
import GoSem.Claim
import GoSem.ClaimJoined
import GoSem.ClaimMapViews
import Derived.JoinedTies
import Derived.KernelRfl
namespace Go.Proofs.YtimddbgnaeeggaaDoor
/- THE CELL 'sum', in the pinned program and in every row, IS THE sha256 OF THE DUMP (.gsa) THAT YtimddbgnaeeggaaDoorProg.lean LOADS. Nothing in Lean hashes anything: it is a label: what it is worth is what the hold of that sum in a sandbox is worth. -/
noncomputable def Tryd.pinned : Pinned := { name := "ytimddbgnaeeggaadoor", sum := "c86c766cf4449984566058dc022e16a147d2fffbd184cedb4dab8b25bb39aa9d", checked := Tryd.checked }
namespace Rows
def none {H : Type} : Left H := { results := [], args := [] }

/- WHAT THE LISTED PACKAGE-LEVEL VARIABLES READ AS WHEN THE CALL BEGINS. Each datum BY PROGRAM (the guide's laid-datum.mjs) off the statement by which the dump's own 'gosem.cut.vars' lays the variable. In a bare row this is a premise. The card (YtimddbgnaeeggaaDoorCards.lean) ties it to the program's text. -/
def laid_unicode_utf8_acceptRanges {H : Type} : DataW H := .agg [.agg [.lit (.int .u8 128), .lit (.int .u8 191)], .agg [.lit (.int .u8 160), .lit (.int .u8 191)], .agg [.lit (.int .u8 128), .lit (.int .u8 159)], .agg [.lit (.int .u8 144), .lit (.int .u8 191)], .agg [.lit (.int .u8 128), .lit (.int .u8 143)], .agg [.lit (.int .u8 0), .lit (.int .u8 0)], .agg [.lit (.int .u8 0), .lit (.int .u8 0)], .agg [.lit (.int .u8 0), .lit (.int .u8 0)], .agg [.lit (.int .u8 0), .lit (.int .u8 0)], .agg [.lit (.int .u8 0), .lit (.int .u8 0)], .agg [.lit (.int .u8 0), .lit (.int .u8 0)], .agg [.lit (.int .u8 0), .lit (.int .u8 0)], .agg [.lit (.int .u8 0), .lit (.int .u8 0)], .agg [.lit (.int .u8 0), .lit (.int .u8 0)], .agg [.lit (.int .u8 0), .lit (.int .u8 0)], .agg [.lit (.int .u8 0), .lit (.int .u8 0)]]
/-- One of Go's own tables, pinned by name: the form's constant. -/
def laid_unicode_utf8_first : DataW Unit := Go.Pinned.utf8First
def laid_math_bits_deBruijn32tab {H : Type} : DataW H := .agg [.lit (.int .u8 0), .lit (.int .u8 1), .lit (.int .u8 28), .lit (.int .u8 2), .lit (.int .u8 29), .lit (.int .u8 14), .lit (.int .u8 24), .lit (.int .u8 3), .lit (.int .u8 30), .lit (.int .u8 22), .lit (.int .u8 20), .lit (.int .u8 15), .lit (.int .u8 25), .lit (.int .u8 17), .lit (.int .u8 4), .lit (.int .u8 8), .lit (.int .u8 31), .lit (.int .u8 27), .lit (.int .u8 13), .lit (.int .u8 23), .lit (.int .u8 21), .lit (.int .u8 19), .lit (.int .u8 16), .lit (.int .u8 7), .lit (.int .u8 26), .lit (.int .u8 12), .lit (.int .u8 18), .lit (.int .u8 6), .lit (.int .u8 11), .lit (.int .u8 5), .lit (.int .u8 10), .lit (.int .u8 9)]
def laid_math_bits_deBruijn64tab {H : Type} : DataW H := .agg [.lit (.int .u8 0), .lit (.int .u8 1), .lit (.int .u8 56), .lit (.int .u8 2), .lit (.int .u8 57), .lit (.int .u8 49), .lit (.int .u8 28), .lit (.int .u8 3), .lit (.int .u8 61), .lit (.int .u8 58), .lit (.int .u8 42), .lit (.int .u8 50), .lit (.int .u8 38), .lit (.int .u8 29), .lit (.int .u8 17), .lit (.int .u8 4), .lit (.int .u8 62), .lit (.int .u8 47), .lit (.int .u8 59), .lit (.int .u8 36), .lit (.int .u8 45), .lit (.int .u8 43), .lit (.int .u8 51), .lit (.int .u8 22), .lit (.int .u8 53), .lit (.int .u8 39), .lit (.int .u8 33), .lit (.int .u8 30), .lit (.int .u8 24), .lit (.int .u8 18), .lit (.int .u8 12), .lit (.int .u8 5), .lit (.int .u8 63), .lit (.int .u8 55), .lit (.int .u8 48), .lit (.int .u8 27), .lit (.int .u8 60), .lit (.int .u8 41), .lit (.int .u8 37), .lit (.int .u8 16), .lit (.int .u8 46), .lit (.int .u8 35), .lit (.int .u8 44), .lit (.int .u8 21), .lit (.int .u8 52), .lit (.int .u8 32), .lit (.int .u8 23), .lit (.int .u8 11), .lit (.int .u8 54), .lit (.int .u8 26), .lit (.int .u8 40), .lit (.int .u8 15), .lit (.int .u8 34), .lit (.int .u8 20), .lit (.int .u8 31), .lit (.int .u8 10), .lit (.int .u8 25), .lit (.int .u8 14), .lit (.int .u8 19), .lit (.int .u8 9), .lit (.int .u8 13), .lit (.int .u8 8), .lit (.int .u8 7), .lit (.int .u8 6)]
def laid_internal_strconv_uint64pow10 {H : Type} : DataW H := .agg [.lit (.int .u64 1), .lit (.int .u64 10), .lit (.int .u64 100), .lit (.int .u64 1000), .lit (.int .u64 10000), .lit (.int .u64 100000), .lit (.int .u64 1000000), .lit (.int .u64 10000000), .lit (.int .u64 100000000), .lit (.int .u64 1000000000), .lit (.int .u64 10000000000), .lit (.int .u64 100000000000), .lit (.int .u64 1000000000000), .lit (.int .u64 10000000000000), .lit (.int .u64 100000000000000), .lit (.int .u64 1000000000000000), .lit (.int .u64 10000000000000000), .lit (.int .u64 100000000000000000), .lit (.int .u64 1000000000000000000), .lit (.int .u64 10000000000000000000)]

/-- 'concordlaw12.KindsOrder': WHATEVER THE INPUT: true; the input reads as it did. -/
def kindsOrderSpec : ChangeSpec := { name := "kindsOrder", fn := fun _ => fun
  | [d1, d2] => { results := [.lit (.bool true)], args := [d1, d2] }
  | _ => none }
def kindsOrderRow : OpenClaim := { program := "ytimddbgnaeeggaadoor", sum := "c86c766cf4449984566058dc022e16a147d2fffbd184cedb4dab8b25bb39aa9d", func := "concord/concordlaw12.KindsOrder", spec := "kindsOrder", inPlace := ["math.Float64frombits", "math.Float64bits"], named := ["unicode/utf8.first", "unicode/utf8.acceptRanges"], apart := false, laid := [("unicode/utf8.acceptRanges", laid_unicode_utf8_acceptRanges), ("unicode/utf8.first", laid_unicode_utf8_first)] }
def KindsOrderSaid : Prop := kindsOrderRow.holds Tryd.pinned (OpenSpec.ofChange kindsOrderSpec)

/-- ITS FALSE NEIGHBOUR: 'it returns false'. Refute it at one input. -/
def kindsOrderWrong : ChangeSpec := { name := "kindsOrder", fn := fun _ => fun
  | [d1, d2] => { results := [.lit (.bool false)], args := [d1, d2] }
  | _ => none }
def KindsOrderWrongFalsely : Prop := kindsOrderRow.holds Tryd.pinned (OpenSpec.ofChange kindsOrderWrong)

/-- 'concordlaw12.KindsLattice': WHATEVER THE INPUT: true; the input reads as it did. -/
def kindsLatticeSpec : ChangeSpec := { name := "kindsLattice", fn := fun _ => fun
  | [d1, d2, d3] => { results := [.lit (.bool true)], args := [d1, d2, d3] }
  | _ => none }
def kindsLatticeRow : OpenClaim := { program := "ytimddbgnaeeggaadoor", sum := "c86c766cf4449984566058dc022e16a147d2fffbd184cedb4dab8b25bb39aa9d", func := "concord/concordlaw12.KindsLattice", spec := "kindsLattice", inPlace := ["math.Float64frombits", "math.Float64bits"], named := ["unicode/utf8.first", "unicode/utf8.acceptRanges"], apart := false, laid := [("unicode/utf8.acceptRanges", laid_unicode_utf8_acceptRanges), ("unicode/utf8.first", laid_unicode_utf8_first)] }
def KindsLatticeSaid : Prop := kindsLatticeRow.holds Tryd.pinned (OpenSpec.ofChange kindsLatticeSpec)

/-- ITS FALSE NEIGHBOUR: 'it returns false'. Refute it at one input. -/
def kindsLatticeWrong : ChangeSpec := { name := "kindsLattice", fn := fun _ => fun
  | [d1, d2, d3] => { results := [.lit (.bool false)], args := [d1, d2, d3] }
  | _ => none }
def KindsLatticeWrongFalsely : Prop := kindsLatticeRow.holds Tryd.pinned (OpenSpec.ofChange kindsLatticeWrong)

/-- 'concordlaw12.KindsJoins': WHATEVER THE INPUT: true; the input reads as it did. -/
def kindsJoinsSpec : ChangeSpec := { name := "kindsJoins", fn := fun _ => fun
  | [d1, d2] => { results := [.lit (.bool true)], args := [d1, d2] }
  | _ => none }
def kindsJoinsRow : OpenClaim := { program := "ytimddbgnaeeggaadoor", sum := "c86c766cf4449984566058dc022e16a147d2fffbd184cedb4dab8b25bb39aa9d", func := "concord/concordlaw12.KindsJoins", spec := "kindsJoins", inPlace := ["math.Float64frombits", "math.Float64bits"], named := ["unicode/utf8.first", "unicode/utf8.acceptRanges"], apart := false, laid := [("unicode/utf8.acceptRanges", laid_unicode_utf8_acceptRanges), ("unicode/utf8.first", laid_unicode_utf8_first)] }
def KindsJoinsSaid : Prop := kindsJoinsRow.holds Tryd.pinned (OpenSpec.ofChange kindsJoinsSpec)

/-- ITS FALSE NEIGHBOUR: 'it returns false'. Refute it at one input. -/
def kindsJoinsWrong : ChangeSpec := { name := "kindsJoins", fn := fun _ => fun
  | [d1, d2] => { results := [.lit (.bool false)], args := [d1, d2] }
  | _ => none }
def KindsJoinsWrongFalsely : Prop := kindsJoinsRow.holds Tryd.pinned (OpenSpec.ofChange kindsJoinsWrong)

/-- 'concordlaw12.KindsUp': WHATEVER THE INPUT: true; the input reads as it did. -/
def kindsUpSpec : ChangeSpec := { name := "kindsUp", fn := fun _ => fun
  | [d1, d2] => { results := [.lit (.bool true)], args := [d1, d2] }
  | _ => none }
def kindsUpRow : OpenClaim := { program := "ytimddbgnaeeggaadoor", sum := "c86c766cf4449984566058dc022e16a147d2fffbd184cedb4dab8b25bb39aa9d", func := "concord/concordlaw12.KindsUp", spec := "kindsUp", inPlace := ["math.Float64frombits", "math.Float64bits"], named := ["unicode/utf8.first", "unicode/utf8.acceptRanges"], apart := false, laid := [("unicode/utf8.acceptRanges", laid_unicode_utf8_acceptRanges), ("unicode/utf8.first", laid_unicode_utf8_first)] }
def KindsUpSaid : Prop := kindsUpRow.holds Tryd.pinned (OpenSpec.ofChange kindsUpSpec)

/-- ITS FALSE NEIGHBOUR: 'it returns false'. Refute it at one input. -/
def kindsUpWrong : ChangeSpec := { name := "kindsUp", fn := fun _ => fun
  | [d1, d2] => { results := [.lit (.bool false)], args := [d1, d2] }
  | _ => none }
def KindsUpWrongFalsely : Prop := kindsUpRow.holds Tryd.pinned (OpenSpec.ofChange kindsUpWrong)

/-- 'concordlaw12.KindsReads': WHATEVER THE INPUT: true; the input reads as it did. -/
def kindsReadsSpec : ChangeSpec := { name := "kindsReads", fn := fun _ => fun
  | [d] => { results := [.lit (.bool true)], args := [d] }
  | _ => none }
def kindsReadsRow : OpenClaim := { program := "ytimddbgnaeeggaadoor", sum := "c86c766cf4449984566058dc022e16a147d2fffbd184cedb4dab8b25bb39aa9d", func := "concord/concordlaw12.KindsReads", spec := "kindsReads", inPlace := ["math.Float64frombits", "math.Float64bits"], named := ["unicode/utf8.first", "unicode/utf8.acceptRanges"], apart := false, laid := [("unicode/utf8.acceptRanges", laid_unicode_utf8_acceptRanges), ("unicode/utf8.first", laid_unicode_utf8_first)] }
def KindsReadsSaid : Prop := kindsReadsRow.holds Tryd.pinned (OpenSpec.ofChange kindsReadsSpec)

/-- ITS FALSE NEIGHBOUR: 'it returns false'. Refute it at one input. -/
def kindsReadsWrong : ChangeSpec := { name := "kindsReads", fn := fun _ => fun
  | [d] => { results := [.lit (.bool false)], args := [d] }
  | _ => none }
def KindsReadsWrongFalsely : Prop := kindsReadsRow.holds Tryd.pinned (OpenSpec.ofChange kindsReadsWrong)

/-- 'concordlaw12.KindsRunes': WHATEVER THE INPUT: true; the input reads as it did. -/
def kindsRunesSpec : ChangeSpec := { name := "kindsRunes", fn := fun _ => fun
  | [d] => { results := [.lit (.bool true)], args := [d] }
  | _ => none }
def kindsRunesRow : OpenClaim := { program := "ytimddbgnaeeggaadoor", sum := "c86c766cf4449984566058dc022e16a147d2fffbd184cedb4dab8b25bb39aa9d", func := "concord/concordlaw12.KindsRunes", spec := "kindsRunes", inPlace := ["math.Float64bits", "math.Float64frombits"], named := ["unicode/utf8.first", "unicode/utf8.acceptRanges"], apart := false, laid := [("unicode/utf8.acceptRanges", laid_unicode_utf8_acceptRanges), ("unicode/utf8.first", laid_unicode_utf8_first)] }
def KindsRunesSaid : Prop := kindsRunesRow.holds Tryd.pinned (OpenSpec.ofChange kindsRunesSpec)

/-- ITS FALSE NEIGHBOUR: 'it returns false'. Refute it at one input. -/
def kindsRunesWrong : ChangeSpec := { name := "kindsRunes", fn := fun _ => fun
  | [d] => { results := [.lit (.bool false)], args := [d] }
  | _ => none }
def KindsRunesWrongFalsely : Prop := kindsRunesRow.holds Tryd.pinned (OpenSpec.ofChange kindsRunesWrong)

/-- 'concordlaw12.KindsResolves': WHATEVER THE INPUT: true; the input reads as it did. -/
def kindsResolvesSpec : ChangeSpec := { name := "kindsResolves", fn := fun _ => fun
  | [d] => { results := [.lit (.bool true)], args := [d] }
  | _ => none }
def kindsResolvesRow : OpenClaim := { program := "ytimddbgnaeeggaadoor", sum := "c86c766cf4449984566058dc022e16a147d2fffbd184cedb4dab8b25bb39aa9d", func := "concord/concordlaw12.KindsResolves", spec := "kindsResolves", inPlace := ["math.Float64frombits", "math.Float64bits"], unfollowed := true, recurses := true, named := ["unicode/utf8.first", "unicode/utf8.acceptRanges"], apart := false, laid := [("unicode/utf8.acceptRanges", laid_unicode_utf8_acceptRanges), ("unicode/utf8.first", laid_unicode_utf8_first)] }
def KindsResolvesSaid : Prop := kindsResolvesRow.holds Tryd.pinned (OpenSpec.ofChange kindsResolvesSpec)

/-- ITS FALSE NEIGHBOUR: 'it returns false'. Refute it at one input. -/
def kindsResolvesWrong : ChangeSpec := { name := "kindsResolves", fn := fun _ => fun
  | [d] => { results := [.lit (.bool false)], args := [d] }
  | _ => none }
def KindsResolvesWrongFalsely : Prop := kindsResolvesRow.holds Tryd.pinned (OpenSpec.ofChange kindsResolvesWrong)

/-- 'concordlaw12.KindsAnyDots': WHATEVER THE INPUT: true; the input reads as it did. -/
def kindsAnyDotsSpec : ChangeSpec := { name := "kindsAnyDots", fn := fun _ => fun
  | [d1, d2] => { results := [.lit (.bool true)], args := [d1, d2] }
  | _ => none }
def kindsAnyDotsRow : OpenClaim := { program := "ytimddbgnaeeggaadoor", sum := "c86c766cf4449984566058dc022e16a147d2fffbd184cedb4dab8b25bb39aa9d", func := "concord/concordlaw12.KindsAnyDots", spec := "kindsAnyDots", inPlace := ["math.Float64frombits", "math.Float64bits"], unfollowed := true, recurses := true, named := ["unicode/utf8.first", "unicode/utf8.acceptRanges"], apart := false, laid := [("unicode/utf8.acceptRanges", laid_unicode_utf8_acceptRanges), ("unicode/utf8.first", laid_unicode_utf8_first)] }
def KindsAnyDotsSaid : Prop := kindsAnyDotsRow.holds Tryd.pinned (OpenSpec.ofChange kindsAnyDotsSpec)

/-- ITS FALSE NEIGHBOUR: 'it returns false'. Refute it at one input. -/
def kindsAnyDotsWrong : ChangeSpec := { name := "kindsAnyDots", fn := fun _ => fun
  | [d1, d2] => { results := [.lit (.bool false)], args := [d1, d2] }
  | _ => none }
def KindsAnyDotsWrongFalsely : Prop := kindsAnyDotsRow.holds Tryd.pinned (OpenSpec.ofChange kindsAnyDotsWrong)

/-- 'concordlaw12.KindsPrints': WHATEVER THE INPUT: true; the input reads as it did. -/
def kindsPrintsSpec : ChangeSpec := { name := "kindsPrints", fn := fun _ => fun
  | [d] => { results := [.lit (.bool true)], args := [d] }
  | _ => none }
def kindsPrintsRow : OpenClaim := { program := "ytimddbgnaeeggaadoor", sum := "c86c766cf4449984566058dc022e16a147d2fffbd184cedb4dab8b25bb39aa9d", func := "concord/concordlaw12.KindsPrints", spec := "kindsPrints", inPlace := ["math.Float64frombits", "math.Float64bits", "internal/bytealg.IndexByteString", "internal/bytealg.IndexString", "internal/abi.NoEscape", "internal/bytealg.MakeNoZero"], named := ["internal/strconv.uint64pow10", "math/bits.deBruijn32tab", "math/bits.deBruijn64tab", "unicode/utf8.first", "unicode/utf8.acceptRanges", "internal/bytealg.MaxLen"], apart := false, laid := [("math/bits.deBruijn32tab", laid_math_bits_deBruijn32tab), ("math/bits.deBruijn64tab", laid_math_bits_deBruijn64tab), ("internal/strconv.uint64pow10", laid_internal_strconv_uint64pow10), ("unicode/utf8.acceptRanges", laid_unicode_utf8_acceptRanges), ("unicode/utf8.first", laid_unicode_utf8_first)] }
def KindsPrintsSaid : Prop := kindsPrintsRow.holds Tryd.pinned (OpenSpec.ofChange kindsPrintsSpec)

/-- ITS FALSE NEIGHBOUR: 'it returns false'. Refute it at one input. -/
def kindsPrintsWrong : ChangeSpec := { name := "kindsPrints", fn := fun _ => fun
  | [d] => { results := [.lit (.bool false)], args := [d] }
  | _ => none }
def KindsPrintsWrongFalsely : Prop := kindsPrintsRow.holds Tryd.pinned (OpenSpec.ofChange kindsPrintsWrong)

/- THE SECOND FORM. 'bulk': how many values and letters a reading holds, each counted each time it is reached (what is shared counts as often as it is met; a slice's spare places count too). A statement '..UptoSaid' is the law's where the arguments, and the package variables that the reading takes, are together of bulk at most 1048576: NARROWER than '..Said'. Prove '..Said' where nothing that the law and all that it calls make is longer than what came in: it says more and counts as full. Else prove '..UptoSaid'. A law counts once. -/
mutual
def uptoBulk {H : Type} : DataW H → Nat
  | .lit (.string bytes) => bytes.length + 1
  | .lit _ => 1
  | .nil => 1
  | .ptr d => uptoBulk d + 1
  | .slice elems spare => uptoBulkAll elems + uptoBulkAll spare + 1
  | .agg parts => uptoBulkAll parts + 1
  | .iface _ d => uptoBulk d + 1
  | .map entries => uptoBulkEntries entries + 1
  | .held _ => 1
def uptoBulkAll {H : Type} : List (DataW H) → Nat
  | [] => 0
  | d :: r => uptoBulk d + uptoBulkAll r
def uptoBulkEntries {H : Type} : List (Lit × DataW H) → Nat
  | [] => 0
  | x :: r => uptoBulkEntry x + uptoBulkEntries r
def uptoBulkEntry {H : Type} : Lit × DataW H → Nat
  | (.string bytes, d) => bytes.length + uptoBulk d + 1
  | (_, d) => uptoBulk d + 1
 end
def uptoSmall : (H : Type) → List (DataW H) → Bool := fun _ ds => decide (uptoBulkAll ds ≤ 1048576)
def OpenSpec.upto (s : _root_.Go.ChangeSpec) : _root_.Go.OpenSpec := { _root_.Go.OpenSpec.ofChange s with cond := some uptoSmall }

/-- 'concordlaw12.KindsOrder', WHERE WHAT IT READS IS OF BULK AT MOST 1048576: true; the input reads as it did. -/
def kindsOrderUptoRow : OpenClaim := { program := "ytimddbgnaeeggaadoor", sum := "c86c766cf4449984566058dc022e16a147d2fffbd184cedb4dab8b25bb39aa9d", func := "concord/concordlaw12.KindsOrder", spec := "kindsOrder", inPlace := ["math.Float64frombits", "math.Float64bits"], named := ["unicode/utf8.first", "unicode/utf8.acceptRanges"], apart := false, laid := [("unicode/utf8.acceptRanges", laid_unicode_utf8_acceptRanges), ("unicode/utf8.first", laid_unicode_utf8_first)], narrowed := true }
def KindsOrderUptoSaid : Prop := kindsOrderUptoRow.holds Tryd.pinned (OpenSpec.upto kindsOrderSpec)

/-- 'concordlaw12.KindsLattice', WHERE WHAT IT READS IS OF BULK AT MOST 1048576: true; the input reads as it did. -/
def kindsLatticeUptoRow : OpenClaim := { program := "ytimddbgnaeeggaadoor", sum := "c86c766cf4449984566058dc022e16a147d2fffbd184cedb4dab8b25bb39aa9d", func := "concord/concordlaw12.KindsLattice", spec := "kindsLattice", inPlace := ["math.Float64frombits", "math.Float64bits"], named := ["unicode/utf8.first", "unicode/utf8.acceptRanges"], apart := false, laid := [("unicode/utf8.acceptRanges", laid_unicode_utf8_acceptRanges), ("unicode/utf8.first", laid_unicode_utf8_first)], narrowed := true }
def KindsLatticeUptoSaid : Prop := kindsLatticeUptoRow.holds Tryd.pinned (OpenSpec.upto kindsLatticeSpec)

/-- 'concordlaw12.KindsJoins', WHERE WHAT IT READS IS OF BULK AT MOST 1048576: true; the input reads as it did. -/
def kindsJoinsUptoRow : OpenClaim := { program := "ytimddbgnaeeggaadoor", sum := "c86c766cf4449984566058dc022e16a147d2fffbd184cedb4dab8b25bb39aa9d", func := "concord/concordlaw12.KindsJoins", spec := "kindsJoins", inPlace := ["math.Float64frombits", "math.Float64bits"], named := ["unicode/utf8.first", "unicode/utf8.acceptRanges"], apart := false, laid := [("unicode/utf8.acceptRanges", laid_unicode_utf8_acceptRanges), ("unicode/utf8.first", laid_unicode_utf8_first)], narrowed := true }
def KindsJoinsUptoSaid : Prop := kindsJoinsUptoRow.holds Tryd.pinned (OpenSpec.upto kindsJoinsSpec)

/-- 'concordlaw12.KindsUp', WHERE WHAT IT READS IS OF BULK AT MOST 1048576: true; the input reads as it did. -/
def kindsUpUptoRow : OpenClaim := { program := "ytimddbgnaeeggaadoor", sum := "c86c766cf4449984566058dc022e16a147d2fffbd184cedb4dab8b25bb39aa9d", func := "concord/concordlaw12.KindsUp", spec := "kindsUp", inPlace := ["math.Float64frombits", "math.Float64bits"], named := ["unicode/utf8.first", "unicode/utf8.acceptRanges"], apart := false, laid := [("unicode/utf8.acceptRanges", laid_unicode_utf8_acceptRanges), ("unicode/utf8.first", laid_unicode_utf8_first)], narrowed := true }
def KindsUpUptoSaid : Prop := kindsUpUptoRow.holds Tryd.pinned (OpenSpec.upto kindsUpSpec)

/-- 'concordlaw12.KindsReads', WHERE WHAT IT READS IS OF BULK AT MOST 1048576: true; the input reads as it did. -/
def kindsReadsUptoRow : OpenClaim := { program := "ytimddbgnaeeggaadoor", sum := "c86c766cf4449984566058dc022e16a147d2fffbd184cedb4dab8b25bb39aa9d", func := "concord/concordlaw12.KindsReads", spec := "kindsReads", inPlace := ["math.Float64frombits", "math.Float64bits"], named := ["unicode/utf8.first", "unicode/utf8.acceptRanges"], apart := false, laid := [("unicode/utf8.acceptRanges", laid_unicode_utf8_acceptRanges), ("unicode/utf8.first", laid_unicode_utf8_first)], narrowed := true }
def KindsReadsUptoSaid : Prop := kindsReadsUptoRow.holds Tryd.pinned (OpenSpec.upto kindsReadsSpec)

/-- 'concordlaw12.KindsRunes', WHERE WHAT IT READS IS OF BULK AT MOST 1048576: true; the input reads as it did. -/
def kindsRunesUptoRow : OpenClaim := { program := "ytimddbgnaeeggaadoor", sum := "c86c766cf4449984566058dc022e16a147d2fffbd184cedb4dab8b25bb39aa9d", func := "concord/concordlaw12.KindsRunes", spec := "kindsRunes", inPlace := ["math.Float64bits", "math.Float64frombits"], named := ["unicode/utf8.first", "unicode/utf8.acceptRanges"], apart := false, laid := [("unicode/utf8.acceptRanges", laid_unicode_utf8_acceptRanges), ("unicode/utf8.first", laid_unicode_utf8_first)], narrowed := true }
def KindsRunesUptoSaid : Prop := kindsRunesUptoRow.holds Tryd.pinned (OpenSpec.upto kindsRunesSpec)

/-- 'concordlaw12.KindsResolves', WHERE WHAT IT READS IS OF BULK AT MOST 1048576: true; the input reads as it did. -/
def kindsResolvesUptoRow : OpenClaim := { program := "ytimddbgnaeeggaadoor", sum := "c86c766cf4449984566058dc022e16a147d2fffbd184cedb4dab8b25bb39aa9d", func := "concord/concordlaw12.KindsResolves", spec := "kindsResolves", inPlace := ["math.Float64frombits", "math.Float64bits"], unfollowed := true, recurses := true, named := ["unicode/utf8.first", "unicode/utf8.acceptRanges"], apart := false, laid := [("unicode/utf8.acceptRanges", laid_unicode_utf8_acceptRanges), ("unicode/utf8.first", laid_unicode_utf8_first)], narrowed := true }
def KindsResolvesUptoSaid : Prop := kindsResolvesUptoRow.holds Tryd.pinned (OpenSpec.upto kindsResolvesSpec)

/-- 'concordlaw12.KindsAnyDots', WHERE WHAT IT READS IS OF BULK AT MOST 1048576: true; the input reads as it did. -/
def kindsAnyDotsUptoRow : OpenClaim := { program := "ytimddbgnaeeggaadoor", sum := "c86c766cf4449984566058dc022e16a147d2fffbd184cedb4dab8b25bb39aa9d", func := "concord/concordlaw12.KindsAnyDots", spec := "kindsAnyDots", inPlace := ["math.Float64frombits", "math.Float64bits"], unfollowed := true, recurses := true, named := ["unicode/utf8.first", "unicode/utf8.acceptRanges"], apart := false, laid := [("unicode/utf8.acceptRanges", laid_unicode_utf8_acceptRanges), ("unicode/utf8.first", laid_unicode_utf8_first)], narrowed := true }
def KindsAnyDotsUptoSaid : Prop := kindsAnyDotsUptoRow.holds Tryd.pinned (OpenSpec.upto kindsAnyDotsSpec)

/-- 'concordlaw12.KindsPrints', WHERE WHAT IT READS IS OF BULK AT MOST 1048576: true; the input reads as it did. -/
def kindsPrintsUptoRow : OpenClaim := { program := "ytimddbgnaeeggaadoor", sum := "c86c766cf4449984566058dc022e16a147d2fffbd184cedb4dab8b25bb39aa9d", func := "concord/concordlaw12.KindsPrints", spec := "kindsPrints", inPlace := ["math.Float64frombits", "math.Float64bits", "internal/bytealg.IndexByteString", "internal/bytealg.IndexString", "internal/abi.NoEscape", "internal/bytealg.MakeNoZero"], named := ["internal/strconv.uint64pow10", "math/bits.deBruijn32tab", "math/bits.deBruijn64tab", "unicode/utf8.first", "unicode/utf8.acceptRanges", "internal/bytealg.MaxLen"], apart := false, laid := [("math/bits.deBruijn32tab", laid_math_bits_deBruijn32tab), ("math/bits.deBruijn64tab", laid_math_bits_deBruijn64tab), ("internal/strconv.uint64pow10", laid_internal_strconv_uint64pow10), ("unicode/utf8.acceptRanges", laid_unicode_utf8_acceptRanges), ("unicode/utf8.first", laid_unicode_utf8_first)], narrowed := true }
def KindsPrintsUptoSaid : Prop := kindsPrintsUptoRow.holds Tryd.pinned (OpenSpec.upto kindsPrintsSpec)

end Rows
end Go.Proofs.YtimddbgnaeeggaaDoor
