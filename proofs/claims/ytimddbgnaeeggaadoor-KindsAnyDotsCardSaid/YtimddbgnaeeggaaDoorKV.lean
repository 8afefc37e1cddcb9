import Derived.Test.YtimddbgnaeeggaaDoorRows
import Derived.ChangeSame
import Derived.ChangeVars
import Derived.JoinedOf
import Derived.RowKit
import Derived.LaidLaws
import Derived.LaidHandle
namespace Go.Proofs.YtimddbgnaeeggaaDoor.KV
open Go
set_option maxRecDepth 100000
def firstVals : Array Value := (Go.Pinned.utf8FirstZ.map fun (n : Nat) => Value.int .u8 (n : Int)).toArray
def accVals : Array Value := (([128, 191, 160, 191, 128, 159, 144, 191, 128, 143, 0, 0, 0, 0, 0, 0, 0, 0, 0, 0, 0, 0, 0, 0, 0, 0, 0, 0, 0, 0, 0, 0] : List Nat).map fun (n : Nat) => Value.int .u8 (n : Int)).toArray
theorem no_iface {l : List Nat} {off : Nat} {u : TypeId} {v : Value} (h : ((l.map fun (n : Nat) => Value.int .u8 (n : Int)).toArray)[off]? = some (.iface u v)) : False := by
  rw [List.getElem?_toArray, List.getElem?_map] at h
  obtain ⟨n, _, h⟩ := Option.map_eq_some_iff.1 h
  cases h
/-- A world in which both tables are laid. -/
noncomputable def laidWorld (os : Os) : World :=
  let w0 := World.holding Tryd.prog os ⟨#[], #[], []⟩
  { w0 with heap := (w0.heap.modify 1 fun
      | .cells _ t frozen => .cells firstVals t frozen
      | o => o).modify 2 fun
      | .cells _ t frozen => .cells accVals t frozen
      | o => o }
theorem row_first (os : Os) (args : Array Value) : ((laidWorld os).forCall (fun _ _ => 0) ⟨#[], args, []⟩).memory.heap[1]? = some (.cells firstVals 165 (0, 0)) := by kernel_rfl
theorem row_acc (os : Os) (args : Array Value) : ((laidWorld os).forCall (fun _ _ => 0) ⟨#[], args, []⟩).memory.heap[2]? = some (.cells accVals 168 (0, 0)) := by kernel_rfl
theorem laid_met (os : Os) (args : Array Value) : laidMetH Tryd.prog Rows.kindsOrderRow.laid ((laidWorld os).forCall (fun _ _ => 0) ⟨#[], args, []⟩).memory := by
  have key : laidMet Tryd.prog Rows.kindsOrderRow.laid ((laidWorld os).forCall (fun _ _ => 0) ⟨#[], args, []⟩).memory := by
    refine ⟨_, ⟨2, 168, accVals, 8, [], _, by kernel_rfl, by kernel_rfl, by kernel_rfl, by kernel_rfl, ⟨1, 165, firstVals, 8, [], [], by kernel_rfl, by kernel_rfl, by kernel_rfl, by kernel_rfl, rfl, rfl⟩, rfl⟩, by decide +kernel, fun b off h => ?_⟩
    rw [List.append_nil, List.append_nil, List.append_nil, List.mem_append, MemPlace.mem_row, MemPlace.mem_row] at h
    rcases h with ⟨i, _, h⟩ | ⟨i, _, h⟩
    · injection h with h1 h2
      subst h1
      refine ⟨⟨_, _, row_acc os args⟩, fun u v hc => ?_⟩
      simp only [World.cell?, row_acc os args] at hc
      exact (no_iface hc).elim
    · injection h with h1 h2
      subst h1
      refine ⟨⟨_, _, row_first os args⟩, fun u v hc => ?_⟩
      simp only [World.cell?, row_first os args] at hc
      exact (no_iface hc).elim
  exact key
end Go.Proofs.YtimddbgnaeeggaaDoor.KV
