/-
  No cell of these rows narrows 'for every input' (looked for: loops, veiled, ifaces, maps, wideKeys, modest, calm, conditions, laid).
  DERIVED. THE GIVEN ROWS OF THIS SEAT. 7 by the template 'for every input the law returns true; each argument reads behind the call as it read before'; 0 by the template 'total and deterministic' (their statements: YtmnimmhpclhmfaaTotals.lean).
  GIVEN WITH THE SEED: the statements are not yours to turn. If you find one false, say at which input.
  Laid BY PROGRAM, IN A SANDBOX (cutbox-rows.mjs): the forced cells as the released guide's own fill.sh prints them over the translation c35d9040952293a3… (all of the seat's roots in one cut). By AI agents, Wed Nov 11 2026. No macro, syntax, notation, axiom, sorry.
-/
import Derived.Test.YtmnimmhpclhmfaaChecked
import GoSem.Claim
import GoSem.ClaimJoined
import GoSem.ClaimMapViews
import Derived.JoinedTies
import Derived.KernelRfl
namespace Go.Proofs.Ytmnimmhpclhmfaa
/- THE CELL 'sum', in the pinned program and in every row, IS THE sha256 OF THE DUMP (.gsa) THAT YtmnimmhpclhmfaaProg.lean LOADS. Nothing in Lean hashes anything: it is a label: what it is worth is what the hold of that sum in a sandbox is worth. -/
noncomputable def Try.pinned : Pinned := { name := "ytmnimmhpclhmfaa", sum := "c35d9040952293a3d9aef05fd035f0c68906f3d0af1ba6b6c80372d1254107b0", checked := Try.checked }
namespace Rows
def none {H : Type} : Left H := { results := [], args := [] }

/-- 'concordlaw28.PaceNumbers': WHATEVER THE INPUT: true; the input reads as it did. -/
def paceNumbersSpec : ChangeSpec := { name := "paceNumbers", fn := fun _ => fun
  | [d1, d2, d3, d4] => { results := [.lit (.bool true)], args := [d1, d2, d3, d4] }
  | _ => none }
def paceNumbersRow : OpenClaim := { program := "ytmnimmhpclhmfaa", sum := "c35d9040952293a3d9aef05fd035f0c68906f3d0af1ba6b6c80372d1254107b0", func := "concord/concordlaw28.PaceNumbers", spec := "paceNumbers", inPlace := ["math.Float64frombits", "math.archCeil", "math.archFloor", "math.Float64bits", "math.archTrunc"], apart := false }
def PaceNumbersSaid : Prop := paceNumbersRow.holds Try.pinned (OpenSpec.ofChange paceNumbersSpec)

/-- ITS FALSE NEIGHBOUR: 'it returns false'. Refute it at one input. -/
def paceNumbersWrong : ChangeSpec := { name := "paceNumbers", fn := fun _ => fun
  | [d1, d2, d3, d4] => { results := [.lit (.bool false)], args := [d1, d2, d3, d4] }
  | _ => none }
def PaceNumbersWrongFalsely : Prop := paceNumbersRow.holds Try.pinned (OpenSpec.ofChange paceNumbersWrong)

/-- 'concordlaw28.PaceLess': WHATEVER THE INPUT: true; the input reads as it did. -/
def paceLessSpec : ChangeSpec := { name := "paceLess", fn := fun _ => fun
  | [d1, d2, d3] => { results := [.lit (.bool true)], args := [d1, d2, d3] }
  | _ => none }
def paceLessRow : OpenClaim := { program := "ytmnimmhpclhmfaa", sum := "c35d9040952293a3d9aef05fd035f0c68906f3d0af1ba6b6c80372d1254107b0", func := "concord/concordlaw28.PaceLess", spec := "paceLess", inPlace := ["math.Float64bits", "math.Float64frombits", "math.archCeil", "math.archFloor", "math.archTrunc"], unfollowed := true, recurses := true, apart := false }
def PaceLessSaid : Prop := paceLessRow.holds Try.pinned (OpenSpec.ofChange paceLessSpec)

/-- ITS FALSE NEIGHBOUR: 'it returns false'. Refute it at one input. -/
def paceLessWrong : ChangeSpec := { name := "paceLess", fn := fun _ => fun
  | [d1, d2, d3] => { results := [.lit (.bool false)], args := [d1, d2, d3] }
  | _ => none }
def PaceLessWrongFalsely : Prop := paceLessRow.holds Try.pinned (OpenSpec.ofChange paceLessWrong)

/-- 'concordlaw28.PaceMeans': WHATEVER THE INPUT: true; the input reads as it did. -/
def paceMeansSpec : ChangeSpec := { name := "paceMeans", fn := fun _ => fun
  | [d] => { results := [.lit (.bool true)], args := [d] }
  | _ => none }
def paceMeansRow : OpenClaim := { program := "ytmnimmhpclhmfaa", sum := "c35d9040952293a3d9aef05fd035f0c68906f3d0af1ba6b6c80372d1254107b0", func := "concord/concordlaw28.PaceMeans", spec := "paceMeans", inPlace := ["math.Float64bits", "math.Float64frombits", "math.archCeil", "math.archFloor", "math.archTrunc"], unfollowed := true, recurses := true, apart := false }
def PaceMeansSaid : Prop := paceMeansRow.holds Try.pinned (OpenSpec.ofChange paceMeansSpec)

/-- ITS FALSE NEIGHBOUR: 'it returns false'. Refute it at one input. -/
def paceMeansWrong : ChangeSpec := { name := "paceMeans", fn := fun _ => fun
  | [d] => { results := [.lit (.bool false)], args := [d] }
  | _ => none }
def PaceMeansWrongFalsely : Prop := paceMeansRow.holds Try.pinned (OpenSpec.ofChange paceMeansWrong)

/-- 'concordlaw28.PaceWaits': WHATEVER THE INPUT: true; the input reads as it did. -/
def paceWaitsSpec : ChangeSpec := { name := "paceWaits", fn := fun _ => fun
  | [d1, d2] => { results := [.lit (.bool true)], args := [d1, d2] }
  | _ => none }
def paceWaitsRow : OpenClaim := { program := "ytmnimmhpclhmfaa", sum := "c35d9040952293a3d9aef05fd035f0c68906f3d0af1ba6b6c80372d1254107b0", func := "concord/concordlaw28.PaceWaits", spec := "paceWaits", inPlace := ["math.Float64bits", "math.Float64frombits", "math.archCeil", "math.archFloor", "math.archTrunc"], unfollowed := true, recurses := true, apart := false }
def PaceWaitsSaid : Prop := paceWaitsRow.holds Try.pinned (OpenSpec.ofChange paceWaitsSpec)

/-- ITS FALSE NEIGHBOUR: 'it returns false'. Refute it at one input. -/
def paceWaitsWrong : ChangeSpec := { name := "paceWaits", fn := fun _ => fun
  | [d1, d2] => { results := [.lit (.bool false)], args := [d1, d2] }
  | _ => none }
def PaceWaitsWrongFalsely : Prop := paceWaitsRow.holds Try.pinned (OpenSpec.ofChange paceWaitsWrong)

/-- 'concordlaw28.PaceOrder': WHATEVER THE INPUT: true; the input reads as it did. -/
def paceOrderSpec : ChangeSpec := { name := "paceOrder", fn := fun _ => fun
  | [d1, d2] => { results := [.lit (.bool true)], args := [d1, d2] }
  | _ => none }
def paceOrderRow : OpenClaim := { program := "ytmnimmhpclhmfaa", sum := "c35d9040952293a3d9aef05fd035f0c68906f3d0af1ba6b6c80372d1254107b0", func := "concord/concordlaw28.PaceOrder", spec := "paceOrder", inPlace := ["math.Float64bits", "math.Float64frombits", "math.archCeil", "math.archFloor", "math.archTrunc"], unfollowed := true, recurses := true, apart := false }
def PaceOrderSaid : Prop := paceOrderRow.holds Try.pinned (OpenSpec.ofChange paceOrderSpec)

/-- ITS FALSE NEIGHBOUR: 'it returns false'. Refute it at one input. -/
def paceOrderWrong : ChangeSpec := { name := "paceOrder", fn := fun _ => fun
  | [d1, d2] => { results := [.lit (.bool false)], args := [d1, d2] }
  | _ => none }
def PaceOrderWrongFalsely : Prop := paceOrderRow.holds Try.pinned (OpenSpec.ofChange paceOrderWrong)

/-- 'concordlaw28.PaceNames': WHATEVER THE INPUT: true; the input reads as it did. -/
def paceNamesSpec : ChangeSpec := { name := "paceNames", fn := fun _ => fun
  | [] => { results := [.lit (.bool true)], args := [] }
  | _ => none }
def paceNamesRow : OpenClaim := { program := "ytmnimmhpclhmfaa", sum := "c35d9040952293a3d9aef05fd035f0c68906f3d0af1ba6b6c80372d1254107b0", func := "concord/concordlaw28.PaceNames", spec := "paceNames", inPlace := ["math.Float64frombits", "math.Float64bits", "math.archCeil", "math.archFloor", "math.archTrunc"], unfollowed := true, recurses := true, apart := false }
def PaceNamesSaid : Prop := paceNamesRow.holds Try.pinned (OpenSpec.ofChange paceNamesSpec)

/-- ITS FALSE NEIGHBOUR: 'it returns false'. Refute it at one input. -/
def paceNamesWrong : ChangeSpec := { name := "paceNames", fn := fun _ => fun
  | [] => { results := [.lit (.bool false)], args := [] }
  | _ => none }
def PaceNamesWrongFalsely : Prop := paceNamesRow.holds Try.pinned (OpenSpec.ofChange paceNamesWrong)

/-- 'concordlaw28.PacePlays': WHATEVER THE INPUT: true; the input reads as it did. -/
def pacePlaysSpec : ChangeSpec := { name := "pacePlays", fn := fun _ => fun
  | [d1, d2, d3] => { results := [.lit (.bool true)], args := [d1, d2, d3] }
  | _ => none }
def pacePlaysRow : OpenClaim := { program := "ytmnimmhpclhmfaa", sum := "c35d9040952293a3d9aef05fd035f0c68906f3d0af1ba6b6c80372d1254107b0", func := "concord/concordlaw28.PacePlays", spec := "pacePlays", inPlace := ["math.Float64frombits", "math.Float64bits", "math.archCeil", "math.archFloor", "math.archTrunc"], unfollowed := true, recurses := true, apart := false }
def PacePlaysSaid : Prop := pacePlaysRow.holds Try.pinned (OpenSpec.ofChange pacePlaysSpec)

/-- ITS FALSE NEIGHBOUR: 'it returns false'. Refute it at one input. -/
def pacePlaysWrong : ChangeSpec := { name := "pacePlays", fn := fun _ => fun
  | [d1, d2, d3] => { results := [.lit (.bool false)], args := [d1, d2, d3] }
  | _ => none }
def PacePlaysWrongFalsely : Prop := pacePlaysRow.holds Try.pinned (OpenSpec.ofChange pacePlaysWrong)

/- THE SECOND FORM. 'bulk': how many values and letters a reading holds, each counted each time it is reached (what is shared counts as often as it is met; a slice's spare places count too). A statement '..UptoSaid' is the law's where the arguments, and the package variables that the reading takes, are together of bulk at most 1048576: NARROWER than '..Said'. Prove '..Said' where nothing that the law and all that it calls make is longer than what came in: it says more and counts as full. Else prove '..UptoSaid'. A law counts once. -/
mutual
def uptoBulk {H : Type} : DataW H → Nat
  | .lit (.string bytes) => bytes.length + 1
  | .lit _ => 1
  | .nil => 1
  | .ptr d => uptoBulk d + 1
  | .slice elems spare => uptoBulkAll elems + uptoBulkAll spare + 1
  | .agg parts => uptoBulkAll parts + 1
  | .iface _ d => uptoBulk d + 1
  | .map entries => uptoBulkEntries entries + 1
  | .held _ => 1
def uptoBulkAll {H : Type} : List (DataW H) → Nat
  | [] => 0
  | d :: r => uptoBulk d + uptoBulkAll r
def uptoBulkEntries {H : Type} : List (Lit × DataW H) → Nat
  | [] => 0
  | x :: r => uptoBulkEntry x + uptoBulkEntries r
def uptoBulkEntry {H : Type} : Lit × DataW H → Nat
  | (.string bytes, d) => bytes.length + uptoBulk d + 1
  | (_, d) => uptoBulk d + 1
 end
def uptoSmall : (H : Type) → List (DataW H) → Bool := fun _ ds => decide (uptoBulkAll ds ≤ 1048576)
def OpenSpec.upto (s : _root_.Go.ChangeSpec) : _root_.Go.OpenSpec := { _root_.Go.OpenSpec.ofChange s with cond := some uptoSmall }

/-- 'concordlaw28.PaceNumbers', WHERE WHAT IT READS IS OF BULK AT MOST 1048576: true; the input reads as it did. -/
def paceNumbersUptoRow : OpenClaim := { program := "ytmnimmhpclhmfaa", sum := "c35d9040952293a3d9aef05fd035f0c68906f3d0af1ba6b6c80372d1254107b0", func := "concord/concordlaw28.PaceNumbers", spec := "paceNumbers", inPlace := ["math.Float64frombits", "math.archCeil", "math.archFloor", "math.Float64bits", "math.archTrunc"], apart := false, narrowed := true }
def PaceNumbersUptoSaid : Prop := paceNumbersUptoRow.holds Try.pinned (OpenSpec.upto paceNumbersSpec)

/-- 'concordlaw28.PaceLess', WHERE WHAT IT READS IS OF BULK AT MOST 1048576: true; the input reads as it did. -/
def paceLessUptoRow : OpenClaim := { program := "ytmnimmhpclhmfaa", sum := "c35d9040952293a3d9aef05fd035f0c68906f3d0af1ba6b6c80372d1254107b0", func := "concord/concordlaw28.PaceLess", spec := "paceLess", inPlace := ["math.Float64bits", "math.Float64frombits", "math.archCeil", "math.archFloor", "math.archTrunc"], unfollowed := true, recurses := true, apart := false, narrowed := true }
def PaceLessUptoSaid : Prop := paceLessUptoRow.holds Try.pinned (OpenSpec.upto paceLessSpec)

/-- 'concordlaw28.PaceMeans', WHERE WHAT IT READS IS OF BULK AT MOST 1048576: true; the input reads as it did. -/
def paceMeansUptoRow : OpenClaim := { program := "ytmnimmhpclhmfaa", sum := "c35d9040952293a3d9aef05fd035f0c68906f3d0af1ba6b6c80372d1254107b0", func := "concord/concordlaw28.PaceMeans", spec := "paceMeans", inPlace := ["math.Float64bits", "math.Float64frombits", "math.archCeil", "math.archFloor", "math.archTrunc"], unfollowed := true, recurses := true, apart := false, narrowed := true }
def PaceMeansUptoSaid : Prop := paceMeansUptoRow.holds Try.pinned (OpenSpec.upto paceMeansSpec)

/-- 'concordlaw28.PaceWaits', WHERE WHAT IT READS IS OF BULK AT MOST 1048576: true; the input reads as it did. -/
def paceWaitsUptoRow : OpenClaim := { program := "ytmnimmhpclhmfaa", sum := "c35d9040952293a3d9aef05fd035f0c68906f3d0af1ba6b6c80372d1254107b0", func := "concord/concordlaw28.PaceWaits", spec := "paceWaits", inPlace := ["math.Float64bits", "math.Float64frombits", "math.archCeil", "math.archFloor", "math.archTrunc"], unfollowed := true, recurses := true, apart := false, narrowed := true }
def PaceWaitsUptoSaid : Prop := paceWaitsUptoRow.holds Try.pinned (OpenSpec.upto paceWaitsSpec)

/-- 'concordlaw28.PaceOrder', WHERE WHAT IT READS IS OF BULK AT MOST 1048576: true; the input reads as it did. -/
def paceOrderUptoRow : OpenClaim := { program := "ytmnimmhpclhmfaa", sum := "c35d9040952293a3d9aef05fd035f0c68906f3d0af1ba6b6c80372d1254107b0", func := "concord/concordlaw28.PaceOrder", spec := "paceOrder", inPlace := ["math.Float64bits", "math.Float64frombits", "math.archCeil", "math.archFloor", "math.archTrunc"], unfollowed := true, recurses := true, apart := false, narrowed := true }
def PaceOrderUptoSaid : Prop := paceOrderUptoRow.holds Try.pinned (OpenSpec.upto paceOrderSpec)

/-- 'concordlaw28.PaceNames', WHERE WHAT IT READS IS OF BULK AT MOST 1048576: true; the input reads as it did. -/
def paceNamesUptoRow : OpenClaim := { program := "ytmnimmhpclhmfaa", sum := "c35d9040952293a3d9aef05fd035f0c68906f3d0af1ba6b6c80372d1254107b0", func := "concord/concordlaw28.PaceNames", spec := "paceNames", inPlace := ["math.Float64frombits", "math.Float64bits", "math.archCeil", "math.archFloor", "math.archTrunc"], unfollowed := true, recurses := true, apart := false, narrowed := true }
def PaceNamesUptoSaid : Prop := paceNamesUptoRow.holds Try.pinned (OpenSpec.upto paceNamesSpec)

/-- 'concordlaw28.PacePlays', WHERE WHAT IT READS IS OF BULK AT MOST 1048576: true; the input reads as it did. -/
def pacePlaysUptoRow : OpenClaim := { program := "ytmnimmhpclhmfaa", sum := "c35d9040952293a3d9aef05fd035f0c68906f3d0af1ba6b6c80372d1254107b0", func := "concord/concordlaw28.PacePlays", spec := "pacePlays", inPlace := ["math.Float64frombits", "math.Float64bits", "math.archCeil", "math.archFloor", "math.archTrunc"], unfollowed := true, recurses := true, apart := false, narrowed := true }
def PacePlaysUptoSaid : Prop := pacePlaysUptoRow.holds Try.pinned (OpenSpec.upto pacePlaysSpec)

end Rows
end Go.Proofs.Ytmnimmhpclhmfaa
