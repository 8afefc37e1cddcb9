/- The law TurnAskers: for every input it answers true; no condition. The row, out of the walk. -/
import Derived.Test.YtefimkcfaoabpaaRows
import Derived.Test.YtefimkcfaoabpaaTE
import Derived.WalkKit
import Derived.ProofKit
import Derived.OpenShut
import Derived.ShutString
import Derived.ChangeOld
import Derived.Below
import Derived.SizedLaws
import Derived.Carry
namespace Go.Proofs.Ytefimkcfaoabpaa.turnAskers
open Go.ChangeShapes Go.WideShapes Go.ChangeAt Go.RowKit
open Go.ChangeMaps (open_string shut_string)
open Go.Eng (V A Fits IsSl open_val open_sl roOf)
set_option linter.unusedVariables false
theorem own : ownKnob Try.prog.godebug = none := by kernel_rfl
theorem laidOut : laidOutB Try.prog = true := by kernel_rfl
theorem ks0 : Go.Eng.scal Try.prog 12 27 = some Go.Proofs.Ytefimkcfaoabpaa.TA.KE := by kernel_rfl
theorem ks3 : Go.Eng.scal Try.prog 12 38 = some Go.Proofs.Ytefimkcfaoabpaa.TA.KS := by kernel_rfl
theorem cl3 : Try.prog.cellsOf 38 = 12 := by kernel_rfl
set_option maxRecDepth 100000 in
theorem lifted (os : Os) (started : os.Started) (H : Type) (enc : TypeId × Value → H) :
    ReturnsInHanded {} Try.checked os 4 .any (Rows.turnAskersSpec.pre6 enc Try.prog Try.f4 Rows.turnAskersRow.domain false) (Rows.turnAskersSpec.post enc Try.prog Try.f4 false true false false) := by
  refine returnsInHanded_of_change_sized (C := Try.checked) own started (by kernel_rfl) Try.func4
    (ChangeSpec.witness6 (enc := enc) (C := Try.checked) false ⟨#[], #[.agg #[.int .u8 0, .int .u16 0, .int .u32 0, .int .u8 0, .int .u8 0], .int .i64 0, .int .i64 0, .slice none 0 0], []⟩ 8 (by kernel_rfl) (by kernel_rfl) (by kernel_rfl) (by kernel_rfl)) ?_
  intro W base args ds gs before hval0 hW hcnd hsz0 _
  have hsz : (DataW.weightsEach Try.prog (Try.f4.params.toList ++ Rows.turnAskersSpec.plain.varTypes Try.prog) (ds ++ gs)).all (· ≤ reachBytes) = true := hsz0
  have hval : ∀ (j : Nat) t v, Try.f4.params[j]? = some t → args[j]? = some v → Value.okWide Try.prog W .any base t v := hval0
  have hW' := hW
  obtain ⟨p, q, hA0, hV, rfl, hfz, hnd⟩ := hW
  have hA : DataW.TrodAll enc Try.prog W 0 (fun _ => true) true Try.f4.params.toList args.toList ds p := hA0
  rw [Try.params4] at hA hval hsz
  obtain ⟨v0, vs0, d0, ds0, p0, q0, hargs, rfl, rfl, h0, r0⟩ := trodAll_cons hA
  obtain ⟨v1, vs1, d1, ds1, p1, q1, rfl, rfl, rfl, h1, r1⟩ := trodAll_cons r0
  obtain ⟨v2, vs2, d2, ds2, p2, q2, rfl, rfl, rfl, h2, r2⟩ := trodAll_cons r1
  obtain ⟨v3, vs3, d3, ds3, p3, q3, rfl, rfl, rfl, h3, r3⟩ := trodAll_cons r2
  obtain ⟨rfl, rfl, rfl⟩ := trodAll_nil r3
  obtain rfl : args = #[v0, v1, v2, v3] := by cases args; simp_all
  obtain ⟨rfl, rfl⟩ := trodVars_none hV
  have k0 := h0
  have lt0 : ∀ x ∈ p0, x.block < W.heap.size := by obtain ⟨m, hm⟩ := k0; exact DataW.trod_lt m _ _ _ hm
  obtain ⟨a0, w0, z0⟩ : ∃ xs : List A, v0 = .agg (xs.map (A.val fun _ => 0)).toArray ∧ Fits Go.Proofs.Ytefimkcfaoabpaa.TA.KE xs := by
    obtain ⟨cs, e, _⟩ := okWide_struct Try.underlying27 (hval 0 27 v0 rfl rfl)
    obtain ⟨fuel, hf⟩ := h0
    obtain ⟨xs, e1, e2⟩ := open_val ks0 hf
    refine ⟨xs, ?_, e2⟩
    rw [e] at e1 ⊢
    congr 1
    apply Array.toList_inj.1
    simpa [Value.cells] using e1
  subst w0
  have k1 := h1
  have lt1 : ∀ x ∈ p1, x.block < W.heap.size := by obtain ⟨m, hm⟩ := k1; exact DataW.trod_lt m _ _ _ hm
  obtain ⟨a1, rfl, rfl, rfl, w1⟩ := open_int Try.underlying3 (hval 1 3 v1 rfl rfl) h1
  simp only [Lit.wf, Bool.and_eq_true, decide_eq_true_eq] at w1
  have k2 := h2
  have lt2 : ∀ x ∈ p2, x.block < W.heap.size := by obtain ⟨m, hm⟩ := k2; exact DataW.trod_lt m _ _ _ hm
  obtain ⟨a2, rfl, rfl, rfl, w2⟩ := open_int Try.underlying3 (hval 2 3 v2 rfl rfl) h2
  simp only [Lit.wf, Bool.and_eq_true, decide_eq_true_eq] at w2
  have k3 := h3
  have lt3 : ∀ x ∈ p3, x.block < W.heap.size := by obtain ⟨m, hm⟩ := k3; exact DataW.trod_lt m _ _ _ hm
  obtain ⟨a3, len3, cap3, F3, w3, z3⟩ : ∃ (y : A) (len cap : Nat) (F : Nat → List A), v3 = y.val (fun _ => 0) ∧ IsSl W 12 Go.Proofs.Ytefimkcfaoabpaa.TA.KS y len cap F := by
    obtain ⟨fuel, hf⟩ := h3
    obtain ⟨y, len, cap, F, e1, e2⟩ := open_sl Try.underlying29 ks3 hf (okWide_slice Try.underlying29 (hval 3 29 v3 rfl rfl))
    rw [cl3] at e2
    exact ⟨y, len, cap, F, e1, e2⟩
  subst w3
  clear hA0 hval0 hsz0 hsz
  refine (Go.Eng.Fn.top (args := [.g a0, .a (.int .i64 a1), .a (.int .i64 a2), .a a3]) (Go.Eng.roOf.ok W) ?_ (Go.Proofs.Ytefimkcfaoabpaa.TA.top4 W a0 z0 a1 w1 a2 w2 a3 len3 cap3 F3 z3)).mono fun e W' ⟨he, bel⟩ => ?_
  · intro v hv
    simp only [List.mem_cons, List.not_mem_nil, or_false] at hv
    rcases hv with rfl | rfl | rfl | rfl
    · exact fun x hx => Go.Eng.Fits.ok z0 x hx
    · exact trivial
    · exact trivial
    · exact Go.Eng.IsSl.ok z3
  subst he
  exact ⟨_, rfl, _, _, _, [], _, [], hW', trodAll_mk1 (shut_bool Try.underlying4 _), (trodAll_cons_mk (Below.trod laidOut (by kernel_rfl) (of_decide_eq_true (by kernel_rfl)) k0 bel lt0) (trodAll_cons_mk (Below.trod laidOut (by kernel_rfl) (of_decide_eq_true (by kernel_rfl)) k1 bel lt1) (trodAll_cons_mk (Below.trod laidOut (by kernel_rfl) (of_decide_eq_true (by kernel_rfl)) k2 bel lt2) (trodAll_cons_mk (Below.trod laidOut (by kernel_rfl) (of_decide_eq_true (by kernel_rfl)) k3 bel lt3) trodAll_mk0)))), rfl, bel.frame _, fun h => by cases h⟩
theorem over : Rows.turnAskersRow.holds Try.pinned (OpenSpec.ofChange Rows.turnAskersSpec) :=
  OpenClaim.holds_of_wide 4 Try.f4 rfl rfl rfl rfl rfl rfl rfl ⟨rfl, rfl, rfl, rfl, rfl⟩ rfl rfl rfl rfl rfl (by kernel_rfl) Try.func4 (by kernel_rfl)
    (of_decide_eq_true (by kernel_rfl)) (by unfold Func.isWrapper; first | (rw [if_pos (by decide +kernel)]; kernel_rfl) | (rw [if_neg (by decide +kernel)]; exact ⟨rfl, rfl⟩))
    (fun os started H enc _ => lifted os started H enc)
theorem proved : Rows.TurnAskersSaid := over
#print axioms proved
end Go.Proofs.Ytefimkcfaoabpaa.turnAskers
namespace Go.Proofs.Ytefimkcfaoabpaa
/-- The row, under a short name, for the claim. -/
theorem turnAskers_holds : Rows.TurnAskersSaid := turnAskers.proved
end Go.Proofs.Ytefimkcfaoabpaa
