import Derived.Test.YtefimkcfaoabpaaDoorVI
import Derived.Test.YtefimkcfaoabpaaDoorRows
import Derived.Lib.LaidTab
import Derived.Stop.LaidErr
namespace Go.Proofs.YtefimkcfaoabpaaDoor.TA
open Go.Eng Go.Lib
set_option maxRecDepth 100000
theorem tens_of {W : World} (hL : laidMetH Tryd.prog Rows.turnRunsRow.laid W) : Tens (roOf W) := by
  have h : laidMet Tryd.prog Rows.turnRunsRow.laid W := hL
  have h3 : laidMet Tryd.prog [("internal/strconv.uint64pow10", tabData .u64 [1, 10, 100, 1000, 10000, 100000, 1000000, 10000000, 100000000, 1000000000, 10000000000, 100000000000, 1000000000000, 10000000000000, 100000000000000, 1000000000000000, 10000000000000000, 100000000000000000, 1000000000000000000, 10000000000000000000])] W := laidMet.tail (laidMet.tail h)
  have hT := tabIs_of_head (P := Tryd.prog) (g := 0) (t := 74) (e := 22) (n := 20) (by kernel_rfl) (by kernel_rfl) (by kernel_rfl) (by kernel_rfl) (by kernel_rfl) (by kernel_rfl) h3
  refine ⟨fun i hi => ⟨trivial, ?_⟩⟩
  have := TabIs.cell hT (g := 0) (by kernel_rfl) i hi
  rw [this]
  show some (Value.int .u64 _) = some (Value.int .u64 _)
  congr 2
  clear this h h3 hT hL
  revert i
  decide +kernel
theorem topRuns (W : World) (hL : laidMetH Tryd.prog Rows.turnRunsRow.laid W) (w : Int) (_ : IntKind.i64.min ≤ w ∧ w ≤ IntKind.i64.max) (r : Int) (_ : IntKind.i64.min ≤ r ∧ r ≤ IntKind.i64.max) (T : Int) (_ : IntKind.u64.min ≤ T ∧ T ≤ IntKind.u64.max) (y : A) (len cap : Nat) (G : Nat → List A) (hG : IsSl W 2 KEv y len cap G) :
    Go.Eng.Fn Tryd.prog (roOf W) 3 [.a (.int .i64 w), .a (.int .i64 r), .a (.int .u64 T), .a y] [] (fun v _ => v = .a (.bool true)) := by
  have hI := itaRep (tens_of hL)
  rcases id hG with ⟨rfl, h0⟩ | ⟨p, rfl, h1, h2, _⟩
  · exact runs3 hI w r T .nils 0 (by decide) (.inl ⟨rfl, rfl⟩)
  · refine runs3 hI w r T (.rslc p len cap) len (Nat.le_trans h1 h2) (.inr ⟨p, cap, rfl, fun i hi => ?_⟩)
    obtain ⟨hf, hro⟩ := hG.get hi
    unfold KEv at hf
    obtain ⟨kd, r0, e0, _, g0⟩ := Fits.int hf
    obtain ⟨x, r1, rfl, _, g1⟩ := Fits.int g0
    obtain rfl := Fits.nil g1
    rw [e0] at hro
    exact ⟨kd, x, fun j y h => by rw [addr_add_add]; exact hro j y h⟩
end Go.Proofs.YtefimkcfaoabpaaDoor.TA
