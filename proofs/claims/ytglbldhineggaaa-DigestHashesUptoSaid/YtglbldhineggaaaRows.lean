/-
  No cell of these rows narrows 'for every input' (looked for: loops, veiled, ifaces, maps, wideKeys, modest, calm, conditions, laid).
  DERIVED. THE GIVEN ROWS OF THIS SEAT. 9 by the template 'for every input the law returns true; each argument reads behind the call as it read before'; 0 by the template 'total and deterministic' (their statements: YtglbldhineggaaaTotals.lean).
  GIVEN WITH THE SEED: the statements are not yours to turn. If you find one false, say at which input.
  Laid BY PROGRAM, IN A SANDBOX (cutbox-rows.mjs): the forced cells as the released guide's own fill.sh prints them over the translation a6d69152309b8185… (all of the seat's roots in one cut). By AI agents, Wed Nov 11 2026. No macro, syntax, notation, axiom, sorry.
-/
import Derived.Test.YtglbldhineggaaaChecked
import GoSem.Claim
import GoSem.ClaimJoined
import GoSem.ClaimMapViews
import Derived.JoinedTies
import Derived.KernelRfl
namespace Go.Proofs.Ytglbldhineggaaa
/- THE CELL 'sum', in the pinned program and in every row, IS THE sha256 OF THE DUMP (.gsa) THAT YtglbldhineggaaaProg.lean LOADS. Nothing in Lean hashes anything: it is a label: what it is worth is what the hold of that sum in a sandbox is worth. -/
noncomputable def Try.pinned : Pinned := { name := "ytglbldhineggaaa", sum := "a6d69152309b81858f87d08c68d41943046bdda70a098a728773db5a5c57c4e6", checked := Try.checked }
namespace Rows
def none {H : Type} : Left H := { results := [], args := [] }

/-- 'concordlaw02.DigestFills': WHATEVER THE INPUT: true; the input reads as it did. -/
def digestFillsSpec : ChangeSpec := { name := "digestFills", fn := fun _ => fun
  | [d1, d2] => { results := [.lit (.bool true)], args := [d1, d2] }
  | _ => none }
def digestFillsRow : OpenClaim := { program := "ytglbldhineggaaa", sum := "a6d69152309b81858f87d08c68d41943046bdda70a098a728773db5a5c57c4e6", func := "concord/concordlaw02.DigestFills", spec := "digestFills", apart := false }
def DigestFillsSaid : Prop := digestFillsRow.holds Try.pinned (OpenSpec.ofChange digestFillsSpec)

/-- ITS FALSE NEIGHBOUR: 'it returns false'. Refute it at one input. -/
def digestFillsWrong : ChangeSpec := { name := "digestFills", fn := fun _ => fun
  | [d1, d2] => { results := [.lit (.bool false)], args := [d1, d2] }
  | _ => none }
def DigestFillsWrongFalsely : Prop := digestFillsRow.holds Try.pinned (OpenSpec.ofChange digestFillsWrong)

/-- 'concordlaw02.DigestHexes': WHATEVER THE INPUT: true; the input reads as it did. -/
def digestHexesSpec : ChangeSpec := { name := "digestHexes", fn := fun _ => fun
  | [d1, d2] => { results := [.lit (.bool true)], args := [d1, d2] }
  | _ => none }
def digestHexesRow : OpenClaim := { program := "ytglbldhineggaaa", sum := "a6d69152309b81858f87d08c68d41943046bdda70a098a728773db5a5c57c4e6", func := "concord/concordlaw02.DigestHexes", spec := "digestHexes", apart := false }
def DigestHexesSaid : Prop := digestHexesRow.holds Try.pinned (OpenSpec.ofChange digestHexesSpec)

/-- ITS FALSE NEIGHBOUR: 'it returns false'. Refute it at one input. -/
def digestHexesWrong : ChangeSpec := { name := "digestHexes", fn := fun _ => fun
  | [d1, d2] => { results := [.lit (.bool false)], args := [d1, d2] }
  | _ => none }
def DigestHexesWrongFalsely : Prop := digestHexesRow.holds Try.pinned (OpenSpec.ofChange digestHexesWrong)

/-- 'concordlaw02.DigestBlocks': WHATEVER THE INPUT: true; the input reads as it did. -/
def digestBlocksSpec : ChangeSpec := { name := "digestBlocks", fn := fun _ => fun
  | [d1, d2] => { results := [.lit (.bool true)], args := [d1, d2] }
  | _ => none }
def digestBlocksRow : OpenClaim := { program := "ytglbldhineggaaa", sum := "a6d69152309b81858f87d08c68d41943046bdda70a098a728773db5a5c57c4e6", func := "concord/concordlaw02.DigestBlocks", spec := "digestBlocks", apart := false }
def DigestBlocksSaid : Prop := digestBlocksRow.holds Try.pinned (OpenSpec.ofChange digestBlocksSpec)

/-- ITS FALSE NEIGHBOUR: 'it returns false'. Refute it at one input. -/
def digestBlocksWrong : ChangeSpec := { name := "digestBlocks", fn := fun _ => fun
  | [d1, d2] => { results := [.lit (.bool false)], args := [d1, d2] }
  | _ => none }
def DigestBlocksWrongFalsely : Prop := digestBlocksRow.holds Try.pinned (OpenSpec.ofChange digestBlocksWrong)

/-- 'concordlaw02.DigestOfs': WHATEVER THE INPUT: true; the input reads as it did. -/
def digestOfsSpec : ChangeSpec := { name := "digestOfs", fn := fun _ => fun
  | [d1, d2] => { results := [.lit (.bool true)], args := [d1, d2] }
  | _ => none }
def digestOfsRow : OpenClaim := { program := "ytglbldhineggaaa", sum := "a6d69152309b81858f87d08c68d41943046bdda70a098a728773db5a5c57c4e6", func := "concord/concordlaw02.DigestOfs", spec := "digestOfs", apart := false }
def DigestOfsSaid : Prop := digestOfsRow.holds Try.pinned (OpenSpec.ofChange digestOfsSpec)

/-- ITS FALSE NEIGHBOUR: 'it returns false'. Refute it at one input. -/
def digestOfsWrong : ChangeSpec := { name := "digestOfs", fn := fun _ => fun
  | [d1, d2] => { results := [.lit (.bool false)], args := [d1, d2] }
  | _ => none }
def DigestOfsWrongFalsely : Prop := digestOfsRow.holds Try.pinned (OpenSpec.ofChange digestOfsWrong)

/-- 'concordlaw02.DigestHashes': WHATEVER THE INPUT: true; the input reads as it did. -/
def digestHashesSpec : ChangeSpec := { name := "digestHashes", fn := fun _ => fun
  | [d] => { results := [.lit (.bool true)], args := [d] }
  | _ => none }
def digestHashesRow : OpenClaim := { program := "ytglbldhineggaaa", sum := "a6d69152309b81858f87d08c68d41943046bdda70a098a728773db5a5c57c4e6", func := "concord/concordlaw02.DigestHashes", spec := "digestHashes", apart := false }
def DigestHashesSaid : Prop := digestHashesRow.holds Try.pinned (OpenSpec.ofChange digestHashesSpec)

/-- ITS FALSE NEIGHBOUR: 'it returns false'. Refute it at one input. -/
def digestHashesWrong : ChangeSpec := { name := "digestHashes", fn := fun _ => fun
  | [d] => { results := [.lit (.bool false)], args := [d] }
  | _ => none }
def DigestHashesWrongFalsely : Prop := digestHashesRow.holds Try.pinned (OpenSpec.ofChange digestHashesWrong)

/-- 'concordlaw02.DigestCuts': WHATEVER THE INPUT: true; the input reads as it did. -/
def digestCutsSpec : ChangeSpec := { name := "digestCuts", fn := fun _ => fun
  | [d1, d2, d3] => { results := [.lit (.bool true)], args := [d1, d2, d3] }
  | _ => none }
def digestCutsRow : OpenClaim := { program := "ytglbldhineggaaa", sum := "a6d69152309b81858f87d08c68d41943046bdda70a098a728773db5a5c57c4e6", func := "concord/concordlaw02.DigestCuts", spec := "digestCuts", apart := false }
def DigestCutsSaid : Prop := digestCutsRow.holds Try.pinned (OpenSpec.ofChange digestCutsSpec)

/-- ITS FALSE NEIGHBOUR: 'it returns false'. Refute it at one input. -/
def digestCutsWrong : ChangeSpec := { name := "digestCuts", fn := fun _ => fun
  | [d1, d2, d3] => { results := [.lit (.bool false)], args := [d1, d2, d3] }
  | _ => none }
def DigestCutsWrongFalsely : Prop := digestCutsRow.holds Try.pinned (OpenSpec.ofChange digestCutsWrong)

/-- 'concordlaw02.DigestFolds': WHATEVER THE INPUT: true; the input reads as it did. -/
def digestFoldsSpec : ChangeSpec := { name := "digestFolds", fn := fun _ => fun
  | [d1, d2] => { results := [.lit (.bool true)], args := [d1, d2] }
  | _ => none }
def digestFoldsRow : OpenClaim := { program := "ytglbldhineggaaa", sum := "a6d69152309b81858f87d08c68d41943046bdda70a098a728773db5a5c57c4e6", func := "concord/concordlaw02.DigestFolds", spec := "digestFolds", apart := false }
def DigestFoldsSaid : Prop := digestFoldsRow.holds Try.pinned (OpenSpec.ofChange digestFoldsSpec)

/-- ITS FALSE NEIGHBOUR: 'it returns false'. Refute it at one input. -/
def digestFoldsWrong : ChangeSpec := { name := "digestFolds", fn := fun _ => fun
  | [d1, d2] => { results := [.lit (.bool false)], args := [d1, d2] }
  | _ => none }
def DigestFoldsWrongFalsely : Prop := digestFoldsRow.holds Try.pinned (OpenSpec.ofChange digestFoldsWrong)

/-- 'concordlaw02.DigestBack': WHATEVER THE INPUT: true; the input reads as it did. -/
def digestBackSpec : ChangeSpec := { name := "digestBack", fn := fun _ => fun
  | [d1, d2] => { results := [.lit (.bool true)], args := [d1, d2] }
  | _ => none }
def digestBackRow : OpenClaim := { program := "ytglbldhineggaaa", sum := "a6d69152309b81858f87d08c68d41943046bdda70a098a728773db5a5c57c4e6", func := "concord/concordlaw02.DigestBack", spec := "digestBack", apart := false }
def DigestBackSaid : Prop := digestBackRow.holds Try.pinned (OpenSpec.ofChange digestBackSpec)

/-- ITS FALSE NEIGHBOUR: 'it returns false'. Refute it at one input. -/
def digestBackWrong : ChangeSpec := { name := "digestBack", fn := fun _ => fun
  | [d1, d2] => { results := [.lit (.bool false)], args := [d1, d2] }
  | _ => none }
def DigestBackWrongFalsely : Prop := digestBackRow.holds Try.pinned (OpenSpec.ofChange digestBackWrong)

/-- 'concordlaw02.DigestNames': WHATEVER THE INPUT: true; the input reads as it did. -/
def digestNamesSpec : ChangeSpec := { name := "digestNames", fn := fun _ => fun
  | [] => { results := [.lit (.bool true)], args := [] }
  | _ => none }
def digestNamesRow : OpenClaim := { program := "ytglbldhineggaaa", sum := "a6d69152309b81858f87d08c68d41943046bdda70a098a728773db5a5c57c4e6", func := "concord/concordlaw02.DigestNames", spec := "digestNames", apart := false }
def DigestNamesSaid : Prop := digestNamesRow.holds Try.pinned (OpenSpec.ofChange digestNamesSpec)

/-- ITS FALSE NEIGHBOUR: 'it returns false'. Refute it at one input. -/
def digestNamesWrong : ChangeSpec := { name := "digestNames", fn := fun _ => fun
  | [] => { results := [.lit (.bool false)], args := [] }
  | _ => none }
def DigestNamesWrongFalsely : Prop := digestNamesRow.holds Try.pinned (OpenSpec.ofChange digestNamesWrong)

/- THE SECOND FORM. 'bulk': how many values and letters a reading holds, each counted each time it is reached (what is shared counts as often as it is met; a slice's spare places count too). A statement '..UptoSaid' is the law's where the arguments, and the package variables that the reading takes, are together of bulk at most 1048576: NARROWER than '..Said'. Prove '..Said' where nothing that the law and all that it calls make is longer than what came in: it says more and counts as full. Else prove '..UptoSaid'. A law counts once. -/
mutual
def uptoBulk {H : Type} : DataW H → Nat
  | .lit (.string bytes) => bytes.length + 1
  | .lit _ => 1
  | .nil => 1
  | .ptr d => uptoBulk d + 1
  | .slice elems spare => uptoBulkAll elems + uptoBulkAll spare + 1
  | .agg parts => uptoBulkAll parts + 1
  | .iface _ d => uptoBulk d + 1
  | .map entries => uptoBulkEntries entries + 1
  | .held _ => 1
def uptoBulkAll {H : Type} : List (DataW H) → Nat
  | [] => 0
  | d :: r => uptoBulk d + uptoBulkAll r
def uptoBulkEntries {H : Type} : List (Lit × DataW H) → Nat
  | [] => 0
  | x :: r => uptoBulkEntry x + uptoBulkEntries r
def uptoBulkEntry {H : Type} : Lit × DataW H → Nat
  | (.string bytes, d) => bytes.length + uptoBulk d + 1
  | (_, d) => uptoBulk d + 1
 end
def uptoSmall : (H : Type) → List (DataW H) → Bool := fun _ ds => decide (uptoBulkAll ds ≤ 1048576)
def OpenSpec.upto (s : _root_.Go.ChangeSpec) : _root_.Go.OpenSpec := { _root_.Go.OpenSpec.ofChange s with cond := some uptoSmall }

/-- 'concordlaw02.DigestFills', WHERE WHAT IT READS IS OF BULK AT MOST 1048576: true; the input reads as it did. -/
def digestFillsUptoRow : OpenClaim := { program := "ytglbldhineggaaa", sum := "a6d69152309b81858f87d08c68d41943046bdda70a098a728773db5a5c57c4e6", func := "concord/concordlaw02.DigestFills", spec := "digestFills", apart := false, narrowed := true }
def DigestFillsUptoSaid : Prop := digestFillsUptoRow.holds Try.pinned (OpenSpec.upto digestFillsSpec)

/-- 'concordlaw02.DigestHexes', WHERE WHAT IT READS IS OF BULK AT MOST 1048576: true; the input reads as it did. -/
def digestHexesUptoRow : OpenClaim := { program := "ytglbldhineggaaa", sum := "a6d69152309b81858f87d08c68d41943046bdda70a098a728773db5a5c57c4e6", func := "concord/concordlaw02.DigestHexes", spec := "digestHexes", apart := false, narrowed := true }
def DigestHexesUptoSaid : Prop := digestHexesUptoRow.holds Try.pinned (OpenSpec.upto digestHexesSpec)

/-- 'concordlaw02.DigestBlocks', WHERE WHAT IT READS IS OF BULK AT MOST 1048576: true; the input reads as it did. -/
def digestBlocksUptoRow : OpenClaim := { program := "ytglbldhineggaaa", sum := "a6d69152309b81858f87d08c68d41943046bdda70a098a728773db5a5c57c4e6", func := "concord/concordlaw02.DigestBlocks", spec := "digestBlocks", apart := false, narrowed := true }
def DigestBlocksUptoSaid : Prop := digestBlocksUptoRow.holds Try.pinned (OpenSpec.upto digestBlocksSpec)

/-- 'concordlaw02.DigestOfs', WHERE WHAT IT READS IS OF BULK AT MOST 1048576: true; the input reads as it did. -/
def digestOfsUptoRow : OpenClaim := { program := "ytglbldhineggaaa", sum := "a6d69152309b81858f87d08c68d41943046bdda70a098a728773db5a5c57c4e6", func := "concord/concordlaw02.DigestOfs", spec := "digestOfs", apart := false, narrowed := true }
def DigestOfsUptoSaid : Prop := digestOfsUptoRow.holds Try.pinned (OpenSpec.upto digestOfsSpec)

/-- 'concordlaw02.DigestHashes', WHERE WHAT IT READS IS OF BULK AT MOST 1048576: true; the input reads as it did. -/
def digestHashesUptoRow : OpenClaim := { program := "ytglbldhineggaaa", sum := "a6d69152309b81858f87d08c68d41943046bdda70a098a728773db5a5c57c4e6", func := "concord/concordlaw02.DigestHashes", spec := "digestHashes", apart := false, narrowed := true }
def DigestHashesUptoSaid : Prop := digestHashesUptoRow.holds Try.pinned (OpenSpec.upto digestHashesSpec)

/-- 'concordlaw02.DigestCuts', WHERE WHAT IT READS IS OF BULK AT MOST 1048576: true; the input reads as it did. -/
def digestCutsUptoRow : OpenClaim := { program := "ytglbldhineggaaa", sum := "a6d69152309b81858f87d08c68d41943046bdda70a098a728773db5a5c57c4e6", func := "concord/concordlaw02.DigestCuts", spec := "digestCuts", apart := false, narrowed := true }
def DigestCutsUptoSaid : Prop := digestCutsUptoRow.holds Try.pinned (OpenSpec.upto digestCutsSpec)

/-- 'concordlaw02.DigestFolds', WHERE WHAT IT READS IS OF BULK AT MOST 1048576: true; the input reads as it did. -/
def digestFoldsUptoRow : OpenClaim := { program := "ytglbldhineggaaa", sum := "a6d69152309b81858f87d08c68d41943046bdda70a098a728773db5a5c57c4e6", func := "concord/concordlaw02.DigestFolds", spec := "digestFolds", apart := false, narrowed := true }
def DigestFoldsUptoSaid : Prop := digestFoldsUptoRow.holds Try.pinned (OpenSpec.upto digestFoldsSpec)

/-- 'concordlaw02.DigestBack', WHERE WHAT IT READS IS OF BULK AT MOST 1048576: true; the input reads as it did. -/
def digestBackUptoRow : OpenClaim := { program := "ytglbldhineggaaa", sum := "a6d69152309b81858f87d08c68d41943046bdda70a098a728773db5a5c57c4e6", func := "concord/concordlaw02.DigestBack", spec := "digestBack", apart := false, narrowed := true }
def DigestBackUptoSaid : Prop := digestBackUptoRow.holds Try.pinned (OpenSpec.upto digestBackSpec)

/-- 'concordlaw02.DigestNames', WHERE WHAT IT READS IS OF BULK AT MOST 1048576: true; the input reads as it did. -/
def digestNamesUptoRow : OpenClaim := { program := "ytglbldhineggaaa", sum := "a6d69152309b81858f87d08c68d41943046bdda70a098a728773db5a5c57c4e6", func := "concord/concordlaw02.DigestNames", spec := "digestNames", apart := false, narrowed := true }
def DigestNamesUptoSaid : Prop := digestNamesUptoRow.holds Try.pinned (OpenSpec.upto digestNamesSpec)

end Rows
end Go.Proofs.Ytglbldhineggaaa
