import Derived.Test.YtimddbgnaeeggaaDoorUA
import Derived.Test.YtimddbgnaeeggaaDoorRows
import Derived.Lib.LaidIn
import Derived.Lib.LaidU8T
namespace Go.Proofs.YtimddbgnaeeggaaDoor.KD
open Go.Eng Go.Shelf Go.Lib
set_option maxRecDepth 100000
/-- The numbers of the tables' types and variables, by the shelf's own. -/
def rho8 : Ren := ⟨fun x => x, fun x => match x with
  | 5 => 5
  | 119 => 165
  | 138 => 167
  | 139 => 168
  | _ => 0, fun x => match x with
  | 3 => 1
  | 4 => 2
  | _ => 0⟩
theorem types8 : U8Types Tryd.prog rho8 := ⟨by kernel_rfl, by kernel_rfl, by kernel_rfl, by kernel_rfl⟩
theorem extra8 : U8Extra Tryd.prog rho8 := ⟨by kernel_rfl, by kernel_rfl, by kernel_rfl, by kernel_rfl, by kernel_rfl, by kernel_rfl, by kernel_rfl⟩
theorem tabs_of {W : World} (hL : laidMetH Tryd.prog Rows.kindsLatticeRow.laid W) : Tabs (roOf W) := by
  have h : laidMet Tryd.prog Rows.kindsLatticeRow.laid W := hL
  have hT : Utf8Tabs 1 2 W := utf8Tabs_of_readsT types8 extra8 (laidMet.reads h (.tail _ (.head _))) (laidMet.reads h (.head _))
  exact ⟨fun c hc => ⟨trivial, hT.1 c hc⟩, fun i hi => ⟨trivial, (hT.2 i hi).1⟩, fun i hi => ⟨trivial, (hT.2 i hi).2⟩⟩
end Go.Proofs.YtimddbgnaeeggaaDoor.KD
