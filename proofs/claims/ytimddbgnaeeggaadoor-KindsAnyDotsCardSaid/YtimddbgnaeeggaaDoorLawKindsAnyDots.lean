/- The law KindsAnyDots: for every input it answers true; no condition. The row, out of the walk. -/
import Derived.Test.YtimddbgnaeeggaaDoorRows
import Derived.Test.YtimddbgnaeeggaaDoorKV
import Derived.Test.YtimddbgnaeeggaaDoorTie
import Derived.Test.YtimddbgnaeeggaaDoorCards
import Derived.Test.YtimddbgnaeeggaaDoorWJ
import Derived.Test.YtimddbgnaeeggaaDoorEngI
import Derived.WalkKit
import Derived.ProofKit
import Derived.OpenShut
import Derived.ShutString
import Derived.ChangeOld
import Derived.Below
import Derived.SizedLaws
import Derived.Carry
import Derived.ChangeSame
import Derived.ChangeVars
import Derived.JoinedOf
import Derived.RowKit
import Derived.LaidLaws
import Derived.LaidHandle
import Derived.SevenTiedAt
namespace Go.Proofs.YtimddbgnaeeggaaDoor.kindsAnyDots
open Go.ChangeShapes Go.WideShapes Go.ChangeAt Go.RowKit
open Go.ChangeMaps (open_string shut_string)
open Go.Eng (V A Fits IsSl open_val open_sl roOf)
set_option linter.unusedVariables false
theorem own : ownKnob Tryd.prog.godebug = none := by kernel_rfl
theorem laidOut : laidOutB Tryd.prog = true := by kernel_rfl
theorem by0 : Tryd.prog.bytesOf 9 = 16 := by kernel_rfl
theorem ks0 : Go.Eng.scal Tryd.prog 12 9 = some Go.Proofs.YtimddbgnaeeggaaDoor.KD.KSt := by kernel_rfl
theorem cl0 : Tryd.prog.cellsOf 9 = 1 := by kernel_rfl
set_option maxRecDepth 100000 in
theorem lifted (os : Os) (started : os.Started) (H : Type) (enc : TypeId × Value → H) :
    ReturnsInHanded {} Tryd.checked os 10 .any (fun w args => (Rows.kindsAnyDotsSpec.pre enc Tryd.prog Tryd.f10 Rows.kindsAnyDotsRow.domain false w args ∧ laidMetH Tryd.prog Rows.kindsAnyDotsRow.laid w) ∧ sizedMet enc Tryd.prog Tryd.f10 (OpenSpec.ofChange Rows.kindsAnyDotsSpec) false w args) (Rows.kindsAnyDotsSpec.post enc Tryd.prog Tryd.f10 false true false false) := by
  refine returnsInHanded_of_change_and (C := Tryd.checked) (X := fun w _ => laidMetH Tryd.prog Rows.kindsAnyDotsRow.laid w) (fun _ _ _ hh h => h.of_heap hh) own started (by kernel_rfl) Tryd.func10
    (ChangeSpec.witness_at (enc := enc) (C := Tryd.checked) (os := os) (X := fun w _ => laidMetH Tryd.prog Rows.kindsAnyDotsRow.laid w) false (KV.laidWorld os) #[.slice none 0 0, .int .i64 0] 8 rfl (by kernel_rfl) (by kernel_rfl) (by kernel_rfl) (by kernel_rfl) (by kernel_rfl) (KV.laid_met os _)) ?_
  intro W base args ds gs before hval0 hW hcnd hsz0 hL _
  have hsz : (DataW.weightsEach Tryd.prog (Tryd.f10.params.toList ++ Rows.kindsAnyDotsSpec.plain.varTypes Tryd.prog) (ds ++ gs)).all (· ≤ reachBytes) = true := hsz0
  have hval : ∀ (j : Nat) t v, Tryd.f10.params[j]? = some t → args[j]? = some v → Value.okWide Tryd.prog W .any base t v := hval0
  have hW' := hW
  obtain ⟨p, q, hA0, hV, rfl, hfz, hnd⟩ := hW
  have hA : DataW.TrodAll enc Tryd.prog W 0 (fun _ => true) true Tryd.f10.params.toList args.toList ds p := hA0
  rw [Tryd.params10] at hA hval hsz
  obtain ⟨v0, vs0, d0, ds0, p0, q0, hargs, rfl, rfl, h0, r0⟩ := trodAll_cons hA
  obtain ⟨v1, vs1, d1, ds1, p1, q1, rfl, rfl, rfl, h1, r1⟩ := trodAll_cons r0
  obtain ⟨rfl, rfl, rfl⟩ := trodAll_nil r1
  obtain rfl : args = #[v0, v1] := by cases args; simp_all
  obtain ⟨rfl, rfl⟩ := trodVars_none hV
  have k0 := h0
  have lt0 : ∀ x ∈ p0, x.block < W.heap.size := by obtain ⟨m, hm⟩ := k0; exact DataW.trod_lt m _ _ _ hm
  obtain ⟨a0, len0, cap0, F0, w0, z0, b0⟩ : ∃ (y : A) (len cap : Nat) (F : Nat → List A), v0 = y.val (fun _ => none) ∧ IsSl W 1 Go.Proofs.YtimddbgnaeeggaaDoor.KD.KSt y len cap F ∧ cap * 16 ≤ 140737488351232 := by
    obtain ⟨fuel, hf⟩ := h0
    obtain ⟨y, len, cap, F, e1, e2, e3⟩ := Go.Eng.open_sls Tryd.underlying80 ks0 hf (okWide_slice Tryd.underlying80 (hval 0 80 v0 rfl rfl))
    rw [cl0] at e2
    refine ⟨y, len, cap, F, e1, e2, ?_⟩
    rcases e3 with e3 | ⟨el, sp, e3, e4⟩
    · rw [e3]; exact Nat.le_of_ble_eq_true rfl
    · have z := sized_slice hsz (j := 0) (t := 80) (e := 9) (elems := el) (spare := sp) rfl (congrArg some e3) Tryd.underlying80
      rw [by0, e4] at z
      exact z
  subst w0
  have k1 := h1
  have lt1 : ∀ x ∈ p1, x.block < W.heap.size := by obtain ⟨m, hm⟩ := k1; exact DataW.trod_lt m _ _ _ hm
  obtain ⟨a1, rfl, rfl, rfl, w1⟩ := open_int Tryd.underlying3 (hval 1 3 v1 rfl rfl) h1
  simp only [Lit.wf, Bool.and_eq_true, decide_eq_true_eq] at w1
  clear hA0 hval0 hsz0 hsz
  refine (Go.Eng.Fn.top (args := [.a a0, .a (.int .i64 a1)]) (Go.Eng.roOf.ok W) ?_ (Go.Proofs.YtimddbgnaeeggaaDoor.KD.topAnyDots W hL a0 len0 cap0 F0 z0 b0 a1 w1)).mono fun e W' ⟨he, bel⟩ => ?_
  · intro v hv
    simp only [List.mem_cons, List.not_mem_nil, or_false] at hv
    rcases hv with rfl | rfl
    · exact Go.Eng.IsSl.ok z0
    · exact trivial
  subst he
  exact ⟨_, rfl, _, _, _, [], _, [], hW', trodAll_mk1 (shut_bool Tryd.underlying4 _), (trodAll_cons_mk (Below.trod laidOut (by kernel_rfl) (of_decide_eq_true (by kernel_rfl)) k0 bel lt0) (trodAll_cons_mk (Below.trod laidOut (by kernel_rfl) (of_decide_eq_true (by kernel_rfl)) k1 bel lt1) trodAll_mk0)), rfl, bel.frame _, fun h => by cases h⟩
theorem over : Rows.kindsAnyDotsRow.holds Tryd.pinned (OpenSpec.ofChange Rows.kindsAnyDotsSpec) :=
  OpenClaim.holds_of_wide 10 Tryd.f10 rfl rfl rfl rfl rfl rfl rfl ⟨rfl, rfl, rfl, rfl, rfl⟩ rfl rfl rfl rfl rfl (by kernel_rfl) Tryd.func10 (by kernel_rfl)
    (of_decide_eq_true (by kernel_rfl)) (by unfold Func.isWrapper; first | (rw [if_pos (by decide +kernel)]; kernel_rfl) | (rw [if_neg (by decide +kernel)]; exact ⟨rfl, rfl⟩))
    (fun os started H enc _ => lifted os started H enc)
theorem proved : Rows.KindsAnyDotsSaid := over
#print axioms proved
theorem card_proved : Rows.KindsAnyDotsCardSaid :=
  Claim7.holds_tied_plain_at .later [] [.data, .pinned] true (true, "14b160c3cd38df27cade7a6021485d84df4a8b21eae2ee695e0e26d2541a647e") false
    proved (fun _ h => by cases h) (by kernel_rfl) (fun _ h => by cases h) kindsAnyDots_row_tie rfl ⟨rfl, rfl⟩ (by kernel_rfl) rfl
    (fun f fn hf hfn => by
      obtain rfl : f = 10 := Option.some.inj ((show Tryd.prog.funcNamed Rows.kindsAnyDotsRow.func = some 10 by kernel_rfl).symm.trans hf) |>.symm
      obtain rfl : fn = Tryd.f10 := (Option.some.inj (Tryd.func10.symm.trans hfn)).symm
      exact ⟨by kernel_rfl, fun j t ht => by
        rw [Tryd.params10] at ht
        rcases j with _ | _ | j
        · have h3 : t = 80 := by simpa using ht.symm
          subst h3
          exact (show Tryd.prog.wantsStandIn 80 = false by kernel_rfl)
        · have h3 : t = 3 := by simpa using ht.symm
          subst h3
          exact (show Tryd.prog.wantsStandIn 3 = false by kernel_rfl)
        · simp at ht⟩)
    (by kernel_rfl)
#print axioms card_proved
end Go.Proofs.YtimddbgnaeeggaaDoor.kindsAnyDots
namespace Go.Proofs.YtimddbgnaeeggaaDoor
/-- The card, under a short name, for the claim. -/
theorem kindsAnyDots_holds : Rows.KindsAnyDotsCardSaid := kindsAnyDots.card_proved
end Go.Proofs.YtimddbgnaeeggaaDoor
