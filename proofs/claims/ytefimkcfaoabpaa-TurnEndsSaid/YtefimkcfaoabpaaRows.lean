/-
  No cell of these rows narrows 'for every input' (looked for: loops, veiled, ifaces, maps, wideKeys, modest, calm, conditions, laid).
  DERIVED. THE GIVEN ROWS OF THIS SEAT. 4 by the template 'for every input the law returns true; each argument reads behind the call as it read before'; 0 by the template 'total and deterministic' (their statements: YtefimkcfaoabpaaTotals.lean).
  GIVEN WITH THE SEED: the statements are not yours to turn. If you find one false, say at which input.
  Laid BY PROGRAM, IN A SANDBOX (cutbox-rows.mjs): the forced cells as the released guide's own fill.sh prints them over the translation a8ae4c496a34a58c… (all of the seat's roots in one cut). By AI agents, Wed Nov 11 2026. No macro, syntax, notation, axiom, sorry.
-/
import Derived.Test.YtefimkcfaoabpaaChecked
import GoSem.Claim
import GoSem.ClaimJoined
import GoSem.ClaimMapViews
import Derived.JoinedTies
import Derived.KernelRfl
namespace Go.Proofs.Ytefimkcfaoabpaa
/- THE CELL 'sum', in the pinned program and in every row, IS THE sha256 OF THE DUMP (.gsa) THAT YtefimkcfaoabpaaProg.lean LOADS. Nothing in Lean hashes anything: it is a label: what it is worth is what the hold of that sum in a sandbox is worth. -/
noncomputable def Try.pinned : Pinned := { name := "ytefimkcfaoabpaa", sum := "a8ae4c496a34a58c193fd0a2f5540bd2ab5f9d47dcd895ed4bd5f9bf6b74339c", checked := Try.checked }
namespace Rows
def none {H : Type} : Left H := { results := [], args := [] }

/-- 'concordlaw23.TurnAnswerers': WHATEVER THE INPUT: true; the input reads as it did. -/
def turnAnswerersSpec : ChangeSpec := { name := "turnAnswerers", fn := fun _ => fun
  | [d1, d2, d3] => { results := [.lit (.bool true)], args := [d1, d2, d3] }
  | _ => none }
def turnAnswerersRow : OpenClaim := { program := "ytefimkcfaoabpaa", sum := "a8ae4c496a34a58c193fd0a2f5540bd2ab5f9d47dcd895ed4bd5f9bf6b74339c", func := "concord/concordlaw23.TurnAnswerers", spec := "turnAnswerers", apart := false }
def TurnAnswerersSaid : Prop := turnAnswerersRow.holds Try.pinned (OpenSpec.ofChange turnAnswerersSpec)

/-- ITS FALSE NEIGHBOUR: 'it returns false'. Refute it at one input. -/
def turnAnswerersWrong : ChangeSpec := { name := "turnAnswerers", fn := fun _ => fun
  | [d1, d2, d3] => { results := [.lit (.bool false)], args := [d1, d2, d3] }
  | _ => none }
def TurnAnswerersWrongFalsely : Prop := turnAnswerersRow.holds Try.pinned (OpenSpec.ofChange turnAnswerersWrong)

/-- 'concordlaw23.TurnAskers': WHATEVER THE INPUT: true; the input reads as it did. -/
def turnAskersSpec : ChangeSpec := { name := "turnAskers", fn := fun _ => fun
  | [d1, d2, d3, d4] => { results := [.lit (.bool true)], args := [d1, d2, d3, d4] }
  | _ => none }
def turnAskersRow : OpenClaim := { program := "ytefimkcfaoabpaa", sum := "a8ae4c496a34a58c193fd0a2f5540bd2ab5f9d47dcd895ed4bd5f9bf6b74339c", func := "concord/concordlaw23.TurnAskers", spec := "turnAskers", apart := false }
def TurnAskersSaid : Prop := turnAskersRow.holds Try.pinned (OpenSpec.ofChange turnAskersSpec)

/-- ITS FALSE NEIGHBOUR: 'it returns false'. Refute it at one input. -/
def turnAskersWrong : ChangeSpec := { name := "turnAskers", fn := fun _ => fun
  | [d1, d2, d3, d4] => { results := [.lit (.bool false)], args := [d1, d2, d3, d4] }
  | _ => none }
def TurnAskersWrongFalsely : Prop := turnAskersRow.holds Try.pinned (OpenSpec.ofChange turnAskersWrong)

/-- 'concordlaw23.TurnNames': WHATEVER THE INPUT: true; the input reads as it did. -/
def turnNamesSpec : ChangeSpec := { name := "turnNames", fn := fun _ => fun
  | [] => { results := [.lit (.bool true)], args := [] }
  | _ => none }
def turnNamesRow : OpenClaim := { program := "ytefimkcfaoabpaa", sum := "a8ae4c496a34a58c193fd0a2f5540bd2ab5f9d47dcd895ed4bd5f9bf6b74339c", func := "concord/concordlaw23.TurnNames", spec := "turnNames", apart := false }
def TurnNamesSaid : Prop := turnNamesRow.holds Try.pinned (OpenSpec.ofChange turnNamesSpec)

/-- ITS FALSE NEIGHBOUR: 'it returns false'. Refute it at one input. -/
def turnNamesWrong : ChangeSpec := { name := "turnNames", fn := fun _ => fun
  | [] => { results := [.lit (.bool false)], args := [] }
  | _ => none }
def TurnNamesWrongFalsely : Prop := turnNamesRow.holds Try.pinned (OpenSpec.ofChange turnNamesWrong)

/-- 'concordlaw23.TurnEnds': WHATEVER THE INPUT: true; the input reads as it did. -/
def turnEndsSpec : ChangeSpec := { name := "turnEnds", fn := fun _ => fun
  | [d1, d2, d3] => { results := [.lit (.bool true)], args := [d1, d2, d3] }
  | _ => none }
def turnEndsRow : OpenClaim := { program := "ytefimkcfaoabpaa", sum := "a8ae4c496a34a58c193fd0a2f5540bd2ab5f9d47dcd895ed4bd5f9bf6b74339c", func := "concord/concordlaw23.TurnEnds", spec := "turnEnds", apart := false }
def TurnEndsSaid : Prop := turnEndsRow.holds Try.pinned (OpenSpec.ofChange turnEndsSpec)

/-- ITS FALSE NEIGHBOUR: 'it returns false'. Refute it at one input. -/
def turnEndsWrong : ChangeSpec := { name := "turnEnds", fn := fun _ => fun
  | [d1, d2, d3] => { results := [.lit (.bool false)], args := [d1, d2, d3] }
  | _ => none }
def TurnEndsWrongFalsely : Prop := turnEndsRow.holds Try.pinned (OpenSpec.ofChange turnEndsWrong)

/- THE SECOND FORM. 'bulk': how many values and letters a reading holds, each counted each time it is reached (what is shared counts as often as it is met; a slice's spare places count too). A statement '..UptoSaid' is the law's where the arguments, and the package variables that the reading takes, are together of bulk at most 1048576: NARROWER than '..Said'. Prove '..Said' where nothing that the law and all that it calls make is longer than what came in: it says more and counts as full. Else prove '..UptoSaid'. A law counts once. -/
mutual
def uptoBulk {H : Type} : DataW H → Nat
  | .lit (.string bytes) => bytes.length + 1
  | .lit _ => 1
  | .nil => 1
  | .ptr d => uptoBulk d + 1
  | .slice elems spare => uptoBulkAll elems + uptoBulkAll spare + 1
  | .agg parts => uptoBulkAll parts + 1
  | .iface _ d => uptoBulk d + 1
  | .map entries => uptoBulkEntries entries + 1
  | .held _ => 1
def uptoBulkAll {H : Type} : List (DataW H) → Nat
  | [] => 0
  | d :: r => uptoBulk d + uptoBulkAll r
def uptoBulkEntries {H : Type} : List (Lit × DataW H) → Nat
  | [] => 0
  | x :: r => uptoBulkEntry x + uptoBulkEntries r
def uptoBulkEntry {H : Type} : Lit × DataW H → Nat
  | (.string bytes, d) => bytes.length + uptoBulk d + 1
  | (_, d) => uptoBulk d + 1
 end
def uptoSmall : (H : Type) → List (DataW H) → Bool := fun _ ds => decide (uptoBulkAll ds ≤ 1048576)
def OpenSpec.upto (s : _root_.Go.ChangeSpec) : _root_.Go.OpenSpec := { _root_.Go.OpenSpec.ofChange s with cond := some uptoSmall }

/-- 'concordlaw23.TurnAnswerers', WHERE WHAT IT READS IS OF BULK AT MOST 1048576: true; the input reads as it did. -/
def turnAnswerersUptoRow : OpenClaim := { program := "ytefimkcfaoabpaa", sum := "a8ae4c496a34a58c193fd0a2f5540bd2ab5f9d47dcd895ed4bd5f9bf6b74339c", func := "concord/concordlaw23.TurnAnswerers", spec := "turnAnswerers", apart := false, narrowed := true }
def TurnAnswerersUptoSaid : Prop := turnAnswerersUptoRow.holds Try.pinned (OpenSpec.upto turnAnswerersSpec)

/-- 'concordlaw23.TurnAskers', WHERE WHAT IT READS IS OF BULK AT MOST 1048576: true; the input reads as it did. -/
def turnAskersUptoRow : OpenClaim := { program := "ytefimkcfaoabpaa", sum := "a8ae4c496a34a58c193fd0a2f5540bd2ab5f9d47dcd895ed4bd5f9bf6b74339c", func := "concord/concordlaw23.TurnAskers", spec := "turnAskers", apart := false, narrowed := true }
def TurnAskersUptoSaid : Prop := turnAskersUptoRow.holds Try.pinned (OpenSpec.upto turnAskersSpec)

/-- 'concordlaw23.TurnNames', WHERE WHAT IT READS IS OF BULK AT MOST 1048576: true; the input reads as it did. -/
def turnNamesUptoRow : OpenClaim := { program := "ytefimkcfaoabpaa", sum := "a8ae4c496a34a58c193fd0a2f5540bd2ab5f9d47dcd895ed4bd5f9bf6b74339c", func := "concord/concordlaw23.TurnNames", spec := "turnNames", apart := false, narrowed := true }
def TurnNamesUptoSaid : Prop := turnNamesUptoRow.holds Try.pinned (OpenSpec.upto turnNamesSpec)

/-- 'concordlaw23.TurnEnds', WHERE WHAT IT READS IS OF BULK AT MOST 1048576: true; the input reads as it did. -/
def turnEndsUptoRow : OpenClaim := { program := "ytefimkcfaoabpaa", sum := "a8ae4c496a34a58c193fd0a2f5540bd2ab5f9d47dcd895ed4bd5f9bf6b74339c", func := "concord/concordlaw23.TurnEnds", spec := "turnEnds", apart := false, narrowed := true }
def TurnEndsUptoSaid : Prop := turnEndsUptoRow.holds Try.pinned (OpenSpec.upto turnEndsSpec)

end Rows
end Go.Proofs.Ytefimkcfaoabpaa
