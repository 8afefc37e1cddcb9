/-
  No cell of these rows narrows 'for every input' (looked for: loops, veiled, ifaces, maps, wideKeys, modest, calm, conditions, laid).
  DERIVED. THE GIVEN ROWS OF THIS SEAT. 2 by the template 'for every input the law returns true; each argument reads behind the call as it read before'; 0 by the template 'total and deterministic' (their statements: YtimddbgnaeeggaaTotals.lean).
  GIVEN WITH THE SEED: the statements are not yours to turn. If you find one false, say at which input.
  Laid BY PROGRAM, IN A SANDBOX (cutbox-rows.mjs): the forced cells as the released guide's own fill.sh prints them over the translation 21d8a9e6a2bc1688… (all of the seat's roots in one cut). By AI agents, Wed Nov 11 2026. No macro, syntax, notation, axiom, sorry.
-/
import Derived.Test.YtimddbgnaeeggaaChecked
import GoSem.Claim
import GoSem.ClaimJoined
import GoSem.ClaimMapViews
import Derived.JoinedTies
import Derived.KernelRfl
namespace Go.Proofs.Ytimddbgnaeeggaa
/- THE CELL 'sum', in the pinned program and in every row, IS THE sha256 OF THE DUMP (.gsa) THAT YtimddbgnaeeggaaProg.lean LOADS. Nothing in Lean hashes anything: it is a label: what it is worth is what the hold of that sum in a sandbox is worth. -/
noncomputable def Try.pinned : Pinned := { name := "ytimddbgnaeeggaa", sum := "21d8a9e6a2bc1688948dc32d50346e179c307edc4279cf2c97c134c933e758e4", checked := Try.checked }
namespace Rows
def none {H : Type} : Left H := { results := [], args := [] }

/-- 'concordlaw12.KindsFloats': WHATEVER THE INPUT: true; the input reads as it did. -/
def kindsFloatsSpec : ChangeSpec := { name := "kindsFloats", fn := fun _ => fun
  | [d1, d2] => { results := [.lit (.bool true)], args := [d1, d2] }
  | _ => none }
def kindsFloatsRow : OpenClaim := { program := "ytimddbgnaeeggaa", sum := "21d8a9e6a2bc1688948dc32d50346e179c307edc4279cf2c97c134c933e758e4", func := "concord/concordlaw12.KindsFloats", spec := "kindsFloats", inPlace := ["math.Float64frombits", "math.Float64bits"], apart := false }
def KindsFloatsSaid : Prop := kindsFloatsRow.holds Try.pinned (OpenSpec.ofChange kindsFloatsSpec)

/-- ITS FALSE NEIGHBOUR: 'it returns false'. Refute it at one input. -/
def kindsFloatsWrong : ChangeSpec := { name := "kindsFloats", fn := fun _ => fun
  | [d1, d2] => { results := [.lit (.bool false)], args := [d1, d2] }
  | _ => none }
def KindsFloatsWrongFalsely : Prop := kindsFloatsRow.holds Try.pinned (OpenSpec.ofChange kindsFloatsWrong)

/-- 'concordlaw12.KindsSteps': WHATEVER THE INPUT: true; the input reads as it did. -/
def kindsStepsSpec : ChangeSpec := { name := "kindsSteps", fn := fun _ => fun
  | [d1, d2] => { results := [.lit (.bool true)], args := [d1, d2] }
  | _ => none }
def kindsStepsRow : OpenClaim := { program := "ytimddbgnaeeggaa", sum := "21d8a9e6a2bc1688948dc32d50346e179c307edc4279cf2c97c134c933e758e4", func := "concord/concordlaw12.KindsSteps", spec := "kindsSteps", inPlace := ["math.Float64frombits", "math.Float64bits"], apart := false }
def KindsStepsSaid : Prop := kindsStepsRow.holds Try.pinned (OpenSpec.ofChange kindsStepsSpec)

/-- ITS FALSE NEIGHBOUR: 'it returns false'. Refute it at one input. -/
def kindsStepsWrong : ChangeSpec := { name := "kindsSteps", fn := fun _ => fun
  | [d1, d2] => { results := [.lit (.bool false)], args := [d1, d2] }
  | _ => none }
def KindsStepsWrongFalsely : Prop := kindsStepsRow.holds Try.pinned (OpenSpec.ofChange kindsStepsWrong)

/- THE SECOND FORM. 'bulk': how many values and letters a reading holds, each counted each time it is reached (what is shared counts as often as it is met; a slice's spare places count too). A statement '..UptoSaid' is the law's where the arguments, and the package variables that the reading takes, are together of bulk at most 1048576: NARROWER than '..Said'. Prove '..Said' where nothing that the law and all that it calls make is longer than what came in: it says more and counts as full. Else prove '..UptoSaid'. A law counts once. -/
mutual
def uptoBulk {H : Type} : DataW H → Nat
  | .lit (.string bytes) => bytes.length + 1
  | .lit _ => 1
  | .nil => 1
  | .ptr d => uptoBulk d + 1
  | .slice elems spare => uptoBulkAll elems + uptoBulkAll spare + 1
  | .agg parts => uptoBulkAll parts + 1
  | .iface _ d => uptoBulk d + 1
  | .map entries => uptoBulkEntries entries + 1
  | .held _ => 1
def uptoBulkAll {H : Type} : List (DataW H) → Nat
  | [] => 0
  | d :: r => uptoBulk d + uptoBulkAll r
def uptoBulkEntries {H : Type} : List (Lit × DataW H) → Nat
  | [] => 0
  | x :: r => uptoBulkEntry x + uptoBulkEntries r
def uptoBulkEntry {H : Type} : Lit × DataW H → Nat
  | (.string bytes, d) => bytes.length + uptoBulk d + 1
  | (_, d) => uptoBulk d + 1
 end
def uptoSmall : (H : Type) → List (DataW H) → Bool := fun _ ds => decide (uptoBulkAll ds ≤ 1048576)
def OpenSpec.upto (s : _root_.Go.ChangeSpec) : _root_.Go.OpenSpec := { _root_.Go.OpenSpec.ofChange s with cond := some uptoSmall }

/-- 'concordlaw12.KindsFloats', WHERE WHAT IT READS IS OF BULK AT MOST 1048576: true; the input reads as it did. -/
def kindsFloatsUptoRow : OpenClaim := { program := "ytimddbgnaeeggaa", sum := "21d8a9e6a2bc1688948dc32d50346e179c307edc4279cf2c97c134c933e758e4", func := "concord/concordlaw12.KindsFloats", spec := "kindsFloats", inPlace := ["math.Float64frombits", "math.Float64bits"], apart := false, narrowed := true }
def KindsFloatsUptoSaid : Prop := kindsFloatsUptoRow.holds Try.pinned (OpenSpec.upto kindsFloatsSpec)

/-- 'concordlaw12.KindsSteps', WHERE WHAT IT READS IS OF BULK AT MOST 1048576: true; the input reads as it did. -/
def kindsStepsUptoRow : OpenClaim := { program := "ytimddbgnaeeggaa", sum := "21d8a9e6a2bc1688948dc32d50346e179c307edc4279cf2c97c134c933e758e4", func := "concord/concordlaw12.KindsSteps", spec := "kindsSteps", inPlace := ["math.Float64frombits", "math.Float64bits"], apart := false, narrowed := true }
def KindsStepsUptoSaid : Prop := kindsStepsUptoRow.holds Try.pinned (OpenSpec.upto kindsStepsSpec)

end Rows
end Go.Proofs.Ytimddbgnaeeggaa
