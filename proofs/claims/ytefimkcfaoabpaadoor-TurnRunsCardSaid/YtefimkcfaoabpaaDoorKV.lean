import Derived.Test.YtefimkcfaoabpaaDoorRows
import Derived.ChangeSame
import Derived.ChangeVars
import Derived.JoinedOf
import Derived.RowKit
import Derived.LaidLaws
import Derived.LaidHandle
namespace Go.Proofs.YtefimkcfaoabpaaDoor.KV
open Go
set_option maxRecDepth 100000
def vals32 : Array Value := (([0, 1, 28, 2, 29, 14, 24, 3, 30, 22, 20, 15, 25, 17, 4, 8, 31, 27, 13, 23, 21, 19, 16, 7, 26, 12, 18, 6, 11, 5, 10, 9] : List Nat).map fun (n : Nat) => Value.int .u8 (n : Int)).toArray
def vals64 : Array Value := (([0, 1, 56, 2, 57, 49, 28, 3, 61, 58, 42, 50, 38, 29, 17, 4, 62, 47, 59, 36, 45, 43, 51, 22, 53, 39, 33, 30, 24, 18, 12, 5, 63, 55, 48, 27, 60, 41, 37, 16, 46, 35, 44, 21, 52, 32, 23, 11, 54, 26, 40, 15, 34, 20, 31, 10, 25, 14, 19, 9, 13, 8, 7, 6] : List Nat).map fun (n : Nat) => Value.int .u8 (n : Int)).toArray
def vals10 : Array Value := (([1, 10, 100, 1000, 10000, 100000, 1000000, 10000000, 100000000, 1000000000, 10000000000, 100000000000, 1000000000000, 10000000000000, 100000000000000, 1000000000000000, 10000000000000000, 100000000000000000, 1000000000000000000, 10000000000000000000] : List Nat).map fun (n : Nat) => Value.int .u64 (n : Int)).toArray
theorem no_iface {k : IntKind} {l : List Nat} {off : Nat} {u : TypeId} {v : Value} (h : ((l.map fun (n : Nat) => Value.int k (n : Int)).toArray)[off]? = some (.iface u v)) : False := by
  rw [List.getElem?_toArray, List.getElem?_map] at h
  obtain ⟨n, _, h⟩ := Option.map_eq_some_iff.1 h
  cases h
/-- A world in which the three tables are laid. -/
noncomputable def laidWorld (os : Os) : World :=
  let w0 := World.holding Tryd.prog os ⟨#[], #[], []⟩
  { w0 with heap := ((w0.heap.modify 1 fun
      | .cells _ t frozen => .cells vals32 t frozen
      | o => o).modify 2 fun
      | .cells _ t frozen => .cells vals64 t frozen
      | o => o).modify 0 fun
      | .cells _ t frozen => .cells vals10 t frozen
      | o => o }
theorem row_32 (os : Os) (args : Array Value) : ((laidWorld os).forCall (fun _ _ => 0) ⟨#[], args, []⟩).memory.heap[1]? = some (.cells vals32 80 (0, 0)) := by kernel_rfl
theorem row_64 (os : Os) (args : Array Value) : ((laidWorld os).forCall (fun _ _ => 0) ⟨#[], args, []⟩).memory.heap[2]? = some (.cells vals64 81 (0, 0)) := by kernel_rfl
theorem row_10 (os : Os) (args : Array Value) : ((laidWorld os).forCall (fun _ _ => 0) ⟨#[], args, []⟩).memory.heap[0]? = some (.cells vals10 74 (0, 0)) := by kernel_rfl
theorem laid_met (os : Os) (args : Array Value) : laidMetH Tryd.prog Rows.turnRunsRow.laid ((laidWorld os).forCall (fun _ _ => 0) ⟨#[], args, []⟩).memory := by
  have key : laidMet Tryd.prog Rows.turnRunsRow.laid ((laidWorld os).forCall (fun _ _ => 0) ⟨#[], args, []⟩).memory := by
    refine ⟨_, ⟨1, 80, vals32, 8, [], _, by kernel_rfl, by kernel_rfl, by kernel_rfl, by kernel_rfl, ⟨2, 81, vals64, 8, [], _, by kernel_rfl, by kernel_rfl, by kernel_rfl, by kernel_rfl, ⟨0, 74, vals10, 8, [], [], by kernel_rfl, by kernel_rfl, by kernel_rfl, by kernel_rfl, rfl, rfl⟩, rfl⟩, rfl⟩, by decide +kernel, fun b off h => ?_⟩
    rw [List.append_nil, List.append_nil, List.append_nil, List.append_nil, List.mem_append, List.mem_append, MemPlace.mem_row, MemPlace.mem_row, MemPlace.mem_row] at h
    rcases h with ⟨i, _, h⟩ | ⟨i, _, h⟩ | ⟨i, _, h⟩
    · injection h with h1 h2
      subst h1
      refine ⟨⟨_, _, row_32 os args⟩, fun u v hc => ?_⟩
      simp only [World.cell?, row_32 os args] at hc
      exact (no_iface hc).elim
    · injection h with h1 h2
      subst h1
      refine ⟨⟨_, _, row_64 os args⟩, fun u v hc => ?_⟩
      simp only [World.cell?, row_64 os args] at hc
      exact (no_iface hc).elim
    · injection h with h1 h2
      subst h1
      refine ⟨⟨_, _, row_10 os args⟩, fun u v hc => ?_⟩
      simp only [World.cell?, row_10 os args] at hc
      exact (no_iface hc).elim
  exact key
end Go.Proofs.YtefimkcfaoabpaaDoor.KV
