/- The law KindsUp: for every input it answers true; no condition. The row, out of the walk. -/
import Derived.Test.YtimddbgnaeeggaaDoorRows
import Derived.Test.YtimddbgnaeeggaaDoorKV
import Derived.Test.YtimddbgnaeeggaaDoorTie
import Derived.Test.YtimddbgnaeeggaaDoorCards
import Derived.Test.YtimddbgnaeeggaaDoorKL3
import Derived.WalkKit
import Derived.ProofKit
import Derived.OpenShut
import Derived.ShutString
import Derived.ChangeOld
import Derived.Below
import Derived.SizedLaws
import Derived.Carry
import Derived.ChangeSame
import Derived.ChangeVars
import Derived.JoinedOf
import Derived.RowKit
import Derived.LaidLaws
import Derived.LaidHandle
import Derived.SevenTiedAt
namespace Go.Proofs.YtimddbgnaeeggaaDoor.kindsUp
open Go.ChangeShapes Go.WideShapes Go.ChangeAt Go.RowKit
open Go.ChangeMaps (open_string shut_string)
open Go.Eng (V A Fits IsSl open_val open_sl roOf)
set_option linter.unusedVariables false
theorem own : ownKnob Tryd.prog.godebug = none := by kernel_rfl
theorem laidOut : laidOutB Tryd.prog = true := by kernel_rfl
theorem ks0 : Go.Eng.scal Tryd.prog 12 48 = some Go.Proofs.YtimddbgnaeeggaaDoor.KD.KCo := by kernel_rfl
theorem cl0 : Tryd.prog.cellsOf 48 = 2 := by kernel_rfl
theorem ks1 : Go.Eng.scal Tryd.prog 12 48 = some Go.Proofs.YtimddbgnaeeggaaDoor.KD.KCo := by kernel_rfl
theorem cl1 : Tryd.prog.cellsOf 48 = 2 := by kernel_rfl
set_option maxRecDepth 100000 in
theorem lifted (os : Os) (started : os.Started) (H : Type) (enc : TypeId × Value → H) :
    ReturnsInHanded {} Tryd.checked os 6 .any (fun w args => (Rows.kindsUpSpec.pre enc Tryd.prog Tryd.f6 Rows.kindsUpRow.domain false w args ∧ laidMetH Tryd.prog Rows.kindsUpRow.laid w) ∧ sizedMet enc Tryd.prog Tryd.f6 (OpenSpec.ofChange Rows.kindsUpSpec) false w args) (Rows.kindsUpSpec.post enc Tryd.prog Tryd.f6 false true false false) := by
  refine returnsInHanded_of_change_and (C := Tryd.checked) (X := fun w _ => laidMetH Tryd.prog Rows.kindsUpRow.laid w) (fun _ _ _ hh h => h.of_heap hh) own started (by kernel_rfl) Tryd.func6
    (ChangeSpec.witness_at (enc := enc) (C := Tryd.checked) (os := os) (X := fun w _ => laidMetH Tryd.prog Rows.kindsUpRow.laid w) false (KV.laidWorld os) #[.slice none 0 0, .slice none 0 0] 8 rfl (by kernel_rfl) (by kernel_rfl) (by kernel_rfl) (by kernel_rfl) (by kernel_rfl) (KV.laid_met os _)) ?_
  intro W base args ds gs before hval0 hW hcnd hsz0 hL _
  have hsz : (DataW.weightsEach Tryd.prog (Tryd.f6.params.toList ++ Rows.kindsUpSpec.plain.varTypes Tryd.prog) (ds ++ gs)).all (· ≤ reachBytes) = true := hsz0
  have hval : ∀ (j : Nat) t v, Tryd.f6.params[j]? = some t → args[j]? = some v → Value.okWide Tryd.prog W .any base t v := hval0
  clear hL
  have hW' := hW
  obtain ⟨p, q, hA0, hV, rfl, hfz, hnd⟩ := hW
  have hA : DataW.TrodAll enc Tryd.prog W 0 (fun _ => true) true Tryd.f6.params.toList args.toList ds p := hA0
  rw [Tryd.params6] at hA hval hsz
  obtain ⟨v0, vs0, d0, ds0, p0, q0, hargs, rfl, rfl, h0, r0⟩ := trodAll_cons hA
  obtain ⟨v1, vs1, d1, ds1, p1, q1, rfl, rfl, rfl, h1, r1⟩ := trodAll_cons r0
  obtain ⟨rfl, rfl, rfl⟩ := trodAll_nil r1
  obtain rfl : args = #[v0, v1] := by cases args; simp_all
  obtain ⟨rfl, rfl⟩ := trodVars_none hV
  have k0 := h0
  have lt0 : ∀ x ∈ p0, x.block < W.heap.size := by obtain ⟨m, hm⟩ := k0; exact DataW.trod_lt m _ _ _ hm
  obtain ⟨a0, len0, cap0, F0, w0, z0⟩ : ∃ (y : A) (len cap : Nat) (F : Nat → List A), v0 = y.val (fun _ => 0) ∧ IsSl W 2 Go.Proofs.YtimddbgnaeeggaaDoor.KD.KCo y len cap F := by
    obtain ⟨fuel, hf⟩ := h0
    obtain ⟨y, len, cap, F, e1, e2⟩ := open_sl Tryd.underlying44 ks0 hf (okWide_slice Tryd.underlying44 (hval 0 44 v0 rfl rfl))
    rw [cl0] at e2
    exact ⟨y, len, cap, F, e1, e2⟩
  subst w0
  have k1 := h1
  have lt1 : ∀ x ∈ p1, x.block < W.heap.size := by obtain ⟨m, hm⟩ := k1; exact DataW.trod_lt m _ _ _ hm
  obtain ⟨a1, len1, cap1, F1, w1, z1⟩ : ∃ (y : A) (len cap : Nat) (F : Nat → List A), v1 = y.val (fun _ => 0) ∧ IsSl W 2 Go.Proofs.YtimddbgnaeeggaaDoor.KD.KCo y len cap F := by
    obtain ⟨fuel, hf⟩ := h1
    obtain ⟨y, len, cap, F, e1, e2⟩ := open_sl Tryd.underlying44 ks1 hf (okWide_slice Tryd.underlying44 (hval 1 44 v1 rfl rfl))
    rw [cl1] at e2
    exact ⟨y, len, cap, F, e1, e2⟩
  subst w1
  clear hA0 hval0 hsz0 hsz
  refine (Go.Eng.Fn.top (args := [.a a0, .a a1]) (Go.Eng.roOf.ok W) ?_ (Go.Proofs.YtimddbgnaeeggaaDoor.KD.topUp W a0 len0 cap0 F0 z0 a1 len1 cap1 F1 z1)).mono fun e W' ⟨he, bel⟩ => ?_
  · intro v hv
    simp only [List.mem_cons, List.not_mem_nil, or_false] at hv
    rcases hv with rfl | rfl
    · exact Go.Eng.IsSl.ok z0
    · exact Go.Eng.IsSl.ok z1
  subst he
  exact ⟨_, rfl, _, _, _, [], _, [], hW', trodAll_mk1 (shut_bool Tryd.underlying4 _), (trodAll_cons_mk (Below.trod laidOut (by kernel_rfl) (of_decide_eq_true (by kernel_rfl)) k0 bel lt0) (trodAll_cons_mk (Below.trod laidOut (by kernel_rfl) (of_decide_eq_true (by kernel_rfl)) k1 bel lt1) trodAll_mk0)), rfl, bel.frame _, fun h => by cases h⟩
theorem over : Rows.kindsUpRow.holds Tryd.pinned (OpenSpec.ofChange Rows.kindsUpSpec) :=
  OpenClaim.holds_of_wide 6 Tryd.f6 rfl rfl rfl rfl rfl rfl rfl ⟨rfl, rfl, rfl, rfl, rfl⟩ rfl rfl rfl rfl rfl (by kernel_rfl) Tryd.func6 (by kernel_rfl)
    (of_decide_eq_true (by kernel_rfl)) (by unfold Func.isWrapper; first | (rw [if_pos (by decide +kernel)]; kernel_rfl) | (rw [if_neg (by decide +kernel)]; exact ⟨rfl, rfl⟩))
    (fun os started H enc _ => lifted os started H enc)
theorem proved : Rows.KindsUpSaid := over
#print axioms proved
theorem card_proved : Rows.KindsUpCardSaid :=
  Claim7.holds_tied_plain_at .later [] [.data, .pinned] true (true, "14b160c3cd38df27cade7a6021485d84df4a8b21eae2ee695e0e26d2541a647e") false
    proved (fun _ h => by cases h) (by kernel_rfl) (fun _ h => by cases h) kindsUp_row_tie rfl ⟨rfl, rfl⟩ (by kernel_rfl) rfl
    (fun f fn hf hfn => by
      obtain rfl : f = 6 := Option.some.inj ((show Tryd.prog.funcNamed Rows.kindsUpRow.func = some 6 by kernel_rfl).symm.trans hf) |>.symm
      obtain rfl : fn = Tryd.f6 := (Option.some.inj (Tryd.func6.symm.trans hfn)).symm
      exact ⟨by kernel_rfl, fun j t ht => by
        rw [Tryd.params6] at ht
        rcases j with _ | _ | j
        · have h3 : t = 44 := by simpa using ht.symm
          subst h3
          exact (show Tryd.prog.wantsStandIn 44 = false by kernel_rfl)
        · have h3 : t = 44 := by simpa using ht.symm
          subst h3
          exact (show Tryd.prog.wantsStandIn 44 = false by kernel_rfl)
        · simp at ht⟩)
    (by kernel_rfl)
#print axioms card_proved
end Go.Proofs.YtimddbgnaeeggaaDoor.kindsUp
namespace Go.Proofs.YtimddbgnaeeggaaDoor
/-- The card, under a short name, for the claim. -/
theorem kindsUp_holds : Rows.KindsUpCardSaid := kindsUp.card_proved
end Go.Proofs.YtimddbgnaeeggaaDoor
