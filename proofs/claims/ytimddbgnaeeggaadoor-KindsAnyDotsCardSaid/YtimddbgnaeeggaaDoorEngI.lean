/- The engine, parts I. -/
import Derived.Test.YtimddbgnaeeggaaDoorEngF
import Derived.Test.YtimddbgnaeeggaaDoorEngH
import Derived.WideShapes
/- The engine, part I: slices with their bulk; arrays. -/
namespace Go.Eng
open Go.WideShapes
section
variable {H : Type} {enc : TypeId × Value → H} {P : Program} {w : World} {base : Nat} {held : Bool}
/-- As 'open_sl'; and what the slice's data are. -/
theorem open_sls {d : Nat} {t e : TypeId} {ks : List Sc} (ht : P.underlying t = some (.slice e)) (hk : scal P d e = some ks) {fuel : Nat} {v : Value} {x : DataW H × List MemPlace} (h : DataW.trod enc P w base (fun _ => true) held fuel t v.cells.toList = some x) (hv : ∃ a l c, v = .slice a l c) :
    ∃ y len cap F, v = (V.a y).val (fun _ => none) ∧ IsSl w (P.cellsOf e) ks y len cap F ∧ (cap = 0 ∨ ∃ el sp, x.1 = .slice el sp ∧ el.length + sp.length = cap) := by
  obtain ⟨y, len, cap, F, e1, e2⟩ := open_sl ht hk h hv
  refine ⟨y, len, cap, F, e1, e2, ?_⟩
  obtain ⟨a, l, c, rfl⟩ := hv
  have hcs : (Value.slice a l c).cells.toList = [.slice a l c] := rfl
  rw [hcs] at h
  rcases e2 with ⟨rfl, _, h0⟩ | ⟨p, rfl, hl0, _, _⟩
  · exact .inl h0
  · refine .inr ?_
    have e3 : Value.slice a l c = .slice (some p) len cap := e1
    injection e3 with e4 e5 e6
    subst e4 e5 e6
    rcases DataW.trod_slice ht h with ⟨h0, _⟩ | ⟨a', len', cap', elems, rest, n, _, h1, hx, hb, hl, hm, hlen, hel, hsp, _⟩
    · simp at h0
    · simp only [List.cons.injEq, Value.slice.injEq, and_true] at h1
      obtain ⟨_, rfl, rfl⟩ := h1
      refine ⟨_, _, congrArg Prod.fst hx, ?_⟩
      rw [List.length_map, List.length_map, hlen, (hsp rfl).1]
      omega
theorem okWide_arr {r : Reach} {t e : TypeId} {n : Nat} {v : Value} (ht : P.underlying t = some (.array n e)) (h : Value.okWide P w r base t v) : ∃ cs, v = .agg cs ∧ cs.size = P.cellsOf t := by
  simp only [Value.okWide, ht] at h
  obtain ⟨cs, h1, h2, _⟩ := h
  exact ⟨cs, h1, h2⟩
end
end Go.Eng
