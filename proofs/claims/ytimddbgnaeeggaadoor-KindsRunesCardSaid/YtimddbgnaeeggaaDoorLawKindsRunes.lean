/- The law KindsRunes: for every input it answers true; no condition. The row, out of the walk. -/
import Derived.Test.YtimddbgnaeeggaaDoorRows
import Derived.Test.YtimddbgnaeeggaaDoorKV
import Derived.Test.YtimddbgnaeeggaaDoorTie
import Derived.Test.YtimddbgnaeeggaaDoorCards
import Derived.Test.YtimddbgnaeeggaaDoorKL8
import Derived.Test.YtimddbgnaeeggaaDoorEngI
import Derived.WalkKit
import Derived.ProofKit
import Derived.OpenShut
import Derived.ShutString
import Derived.ChangeOld
import Derived.Below
import Derived.SizedLaws
import Derived.Carry
import Derived.ChangeSame
import Derived.ChangeVars
import Derived.JoinedOf
import Derived.RowKit
import Derived.LaidLaws
import Derived.LaidHandle
import Derived.SevenTiedAt
namespace Go.Proofs.YtimddbgnaeeggaaDoor.kindsRunes
open Go.ChangeShapes Go.WideShapes Go.ChangeAt Go.RowKit
open Go.ChangeMaps (open_string shut_string)
open Go.Eng (V A Fits IsSl open_val open_sl roOf)
set_option linter.unusedVariables false
theorem own : ownKnob Tryd.prog.godebug = none := by kernel_rfl
theorem laidOut : laidOutB Tryd.prog = true := by kernel_rfl
theorem by0 : Tryd.prog.bytesOf 21 = 4 := by kernel_rfl
theorem ks0 : Go.Eng.scal Tryd.prog 12 21 = some Go.Proofs.YtimddbgnaeeggaaDoor.KD.KRn := by kernel_rfl
theorem cl0 : Tryd.prog.cellsOf 21 = 1 := by kernel_rfl
set_option maxRecDepth 100000 in
theorem lifted (os : Os) (started : os.Started) (H : Type) (enc : TypeId × Value → H) :
    ReturnsInHanded {} Tryd.checked os 8 .any (fun w args => (Rows.kindsRunesSpec.pre enc Tryd.prog Tryd.f8 Rows.kindsRunesRow.domain false w args ∧ laidMetH Tryd.prog Rows.kindsRunesRow.laid w) ∧ sizedMet enc Tryd.prog Tryd.f8 (OpenSpec.ofChange Rows.kindsRunesSpec) false w args) (Rows.kindsRunesSpec.post enc Tryd.prog Tryd.f8 false true false false) := by
  refine returnsInHanded_of_change_and (C := Tryd.checked) (X := fun w _ => laidMetH Tryd.prog Rows.kindsRunesRow.laid w) (fun _ _ _ hh h => h.of_heap hh) own started (by kernel_rfl) Tryd.func8
    (ChangeSpec.witness_at (enc := enc) (C := Tryd.checked) (os := os) (X := fun w _ => laidMetH Tryd.prog Rows.kindsRunesRow.laid w) false (KV.laidWorld os) #[.slice none 0 0] 8 rfl (by kernel_rfl) (by kernel_rfl) (by kernel_rfl) (by kernel_rfl) (by kernel_rfl) (KV.laid_met os _)) ?_
  intro W base args ds gs before hval0 hW hcnd hsz0 hL _
  have hsz : (DataW.weightsEach Tryd.prog (Tryd.f8.params.toList ++ Rows.kindsRunesSpec.plain.varTypes Tryd.prog) (ds ++ gs)).all (· ≤ reachBytes) = true := hsz0
  have hval : ∀ (j : Nat) t v, Tryd.f8.params[j]? = some t → args[j]? = some v → Value.okWide Tryd.prog W .any base t v := hval0
  have hW' := hW
  obtain ⟨p, q, hA0, hV, rfl, hfz, hnd⟩ := hW
  have hA : DataW.TrodAll enc Tryd.prog W 0 (fun _ => true) true Tryd.f8.params.toList args.toList ds p := hA0
  rw [Tryd.params8] at hA hval hsz
  obtain ⟨v0, vs0, d0, ds0, p0, q0, hargs, rfl, rfl, h0, r0⟩ := trodAll_cons hA
  obtain ⟨rfl, rfl, rfl⟩ := trodAll_nil r0
  obtain rfl : args = #[v0] := by cases args; simp_all
  obtain ⟨rfl, rfl⟩ := trodVars_none hV
  have k0 := h0
  have lt0 : ∀ x ∈ p0, x.block < W.heap.size := by obtain ⟨m, hm⟩ := k0; exact DataW.trod_lt m _ _ _ hm
  obtain ⟨a0, len0, cap0, F0, w0, z0, b0⟩ : ∃ (y : A) (len cap : Nat) (F : Nat → List A), v0 = y.val (fun _ => none) ∧ IsSl W 1 Go.Proofs.YtimddbgnaeeggaaDoor.KD.KRn y len cap F ∧ cap * 4 ≤ 140737488351232 := by
    obtain ⟨fuel, hf⟩ := h0
    obtain ⟨y, len, cap, F, e1, e2, e3⟩ := Go.Eng.open_sls Tryd.underlying55 ks0 hf (okWide_slice Tryd.underlying55 (hval 0 55 v0 rfl rfl))
    rw [cl0] at e2
    refine ⟨y, len, cap, F, e1, e2, ?_⟩
    rcases e3 with e3 | ⟨el, sp, e3, e4⟩
    · rw [e3]; exact Nat.le_of_ble_eq_true rfl
    · have z := sized_slice hsz (j := 0) (t := 55) (e := 21) (elems := el) (spare := sp) rfl (congrArg some e3) Tryd.underlying55
      rw [by0, e4] at z
      exact z
  subst w0
  clear hA0 hval0 hsz0 hsz
  refine (Go.Eng.Fn.top (args := [.a a0]) (Go.Eng.roOf.ok W) ?_ (Go.Proofs.YtimddbgnaeeggaaDoor.KD.topRunes W hL a0 len0 cap0 F0 z0 b0)).mono fun e W' ⟨he, bel⟩ => ?_
  · intro v hv
    simp only [List.mem_cons, List.not_mem_nil, or_false] at hv
    subst hv
    · exact Go.Eng.IsSl.ok z0
  subst he
  exact ⟨_, rfl, _, _, _, [], _, [], hW', trodAll_mk1 (shut_bool Tryd.underlying4 _), (trodAll_cons_mk (Below.trod laidOut (by kernel_rfl) (of_decide_eq_true (by kernel_rfl)) k0 bel lt0) trodAll_mk0), rfl, bel.frame _, fun h => by cases h⟩
theorem over : Rows.kindsRunesRow.holds Tryd.pinned (OpenSpec.ofChange Rows.kindsRunesSpec) :=
  OpenClaim.holds_of_wide 8 Tryd.f8 rfl rfl rfl rfl rfl rfl rfl ⟨rfl, rfl, rfl, rfl, rfl⟩ rfl rfl rfl rfl rfl (by kernel_rfl) Tryd.func8 (by kernel_rfl)
    (of_decide_eq_true (by kernel_rfl)) (by unfold Func.isWrapper; first | (rw [if_pos (by decide +kernel)]; kernel_rfl) | (rw [if_neg (by decide +kernel)]; exact ⟨rfl, rfl⟩))
    (fun os started H enc _ => lifted os started H enc)
theorem proved : Rows.KindsRunesSaid := over
#print axioms proved
theorem card_proved : Rows.KindsRunesCardSaid :=
  Claim7.holds_tied_plain_at .later [] [.data, .pinned] true (true, "14b160c3cd38df27cade7a6021485d84df4a8b21eae2ee695e0e26d2541a647e") false
    proved (fun _ h => by cases h) (by kernel_rfl) (fun _ h => by cases h) kindsRunes_row_tie rfl ⟨rfl, rfl⟩ (by kernel_rfl) rfl
    (fun f fn hf hfn => by
      obtain rfl : f = 8 := Option.some.inj ((show Tryd.prog.funcNamed Rows.kindsRunesRow.func = some 8 by kernel_rfl).symm.trans hf) |>.symm
      obtain rfl : fn = Tryd.f8 := (Option.some.inj (Tryd.func8.symm.trans hfn)).symm
      exact ⟨by kernel_rfl, fun j t ht => by
        rw [Tryd.params8] at ht
        rcases j with _ | j
        · have h3 : t = 55 := by simpa using ht.symm
          subst h3
          exact (show Tryd.prog.wantsStandIn 55 = false by kernel_rfl)
        · simp at ht⟩)
    (by kernel_rfl)
#print axioms card_proved
end Go.Proofs.YtimddbgnaeeggaaDoor.kindsRunes
namespace Go.Proofs.YtimddbgnaeeggaaDoor
/-- The card, under a short name, for the claim. -/
theorem kindsRunes_holds : Rows.KindsRunesCardSaid := kindsRunes.card_proved
end Go.Proofs.YtimddbgnaeeggaaDoor
