/- The law DigestHashes: for every input whose bulk is at most 1048576 it answers true. The row, out of the walk. -/
import Derived.Test.YtglbldhineggaaaRows
import Derived.Test.YtglbldhineggaaaDZR
import Derived.Test.YtglbldhineggaaaEngM
import Derived.WalkKit
import Derived.ProofKit
import Derived.OpenShut
import Derived.ShutString
import Derived.ChangeOld
import Derived.Below
import Derived.SizedLaws
import Derived.Carry
import Derived.JoinedCond
namespace Go.Proofs.Ytglbldhineggaaa.digestHashesUpto
open Go.ChangeShapes Go.WideShapes Go.ChangeAt Go.RowKit
open Go.ChangeMaps (open_string shut_string)
open Go.Eng (V A Fits IsSl open_val open_sl roOf)
set_option linter.unusedVariables false
theorem own : ownKnob Try.prog.godebug = none := by kernel_rfl
theorem laidOut : laidOutB Try.prog = true := by kernel_rfl
theorem ks0 : Go.Eng.scd Try.prog 12 51 = some Go.Proofs.Ytglbldhineggaaa.DG.KH := by kernel_rfl
theorem cl0 : Try.prog.cellsOf 51 = 4 := by kernel_rfl
theorem bulk_one {H : Type} (d : DataW H) : 1 ≤ Rows.uptoBulk d := by
  cases d with
  | lit l => cases l <;> simp only [Rows.uptoBulk] <;> omega
  | _ => simp only [Rows.uptoBulk] <;> omega
theorem bulk_len {H : Type} : ∀ l : List (DataW H), l.length ≤ Rows.uptoBulkAll l
  | [] => Nat.zero_le _
  | d :: r => by
    have h1 := bulk_one d
    have h2 := bulk_len r
    simp only [Rows.uptoBulkAll, List.length_cons]
    omega
theorem bulk_in {H : Type} : ∀ (l : List (DataW H)) (d : DataW H), d ∈ l → Rows.uptoBulk d ≤ Rows.uptoBulkAll l
  | [], _, h => by cases h
  | x :: l, d, h => by
    simp only [Rows.uptoBulkAll]
    rcases List.mem_cons.1 h with e | h
    · subst e; omega
    · have := bulk_in l d h; omega
theorem bulk_ok (H : Type) : Go.Eng.Bulk (Rows.uptoBulk (H := H)) := by
  refine ⟨fun l d h => ?_, fun l r d h => ?_, fun l r d h => ?_, fun l r => ?_, fun b => ?_⟩
  · have := bulk_in l d h; simp only [Rows.uptoBulk]; omega
  · have := bulk_in l d h; simp only [Rows.uptoBulk]; omega
  · have := bulk_in r d h; simp only [Rows.uptoBulk]; omega
  · have h1 := bulk_len l; have h2 := bulk_len r; simp only [Rows.uptoBulk]; omega
  · simp only [Rows.uptoBulk]; omega
set_option maxRecDepth 100000 in
theorem lifted (os : Os) (started : os.Started) (H : Type) (enc : TypeId × Value → H) (F : Stop.Interp) :
    ReturnsInHanded {} Try.checked os 7 .any ((Rows.OpenSpec.upto Rows.digestHashesSpec).pre6 enc Try.prog Try.f7 Rows.digestHashesUptoRow.domain false) (((Rows.OpenSpec.upto Rows.digestHashesSpec).at F).post enc Try.prog Try.f7 false true false false) := by
  refine returnsInHanded_of_cond (C := Try.checked) (s := Rows.OpenSpec.upto Rows.digestHashesSpec) (k := Rows.uptoSmall) rfl own started (by kernel_rfl) Try.func7
    (OpenSpec.witness (enc := enc) (C := Try.checked) (s := Rows.OpenSpec.upto Rows.digestHashesSpec) (k := Rows.uptoSmall) rfl false ⟨#[], #[.slice none 0 0], []⟩ 8 (by kernel_rfl) (by kernel_rfl) (by kernel_rfl)
      (x := ([.nil], [], [])) (by kernel_rfl) rfl (by kernel_rfl)) ?_
  intro W base args ds gs before hval0 hW _ hk _
  have hval : ∀ (j : Nat) t v, Try.f7.params[j]? = some t → args[j]? = some v → Value.okWide Try.prog W .any base t v := hval0
  have hW' := hW
  obtain ⟨p, q, hA0, hV, rfl, hfz, hnd⟩ := hW
  have hA : DataW.TrodAll enc Try.prog W 0 (fun _ => true) true Try.f7.params.toList args.toList ds p := hA0
  rw [Try.params7] at hA hval
  obtain ⟨v0, vs0, d0, ds0, p0, q0, hargs, rfl, rfl, h0, r0⟩ := trodAll_cons hA
  obtain ⟨rfl, rfl, rfl⟩ := trodAll_nil r0
  obtain rfl : args = #[v0] := by cases args; simp_all
  obtain ⟨rfl, rfl⟩ := trodVars_none hV
  have hb : Rows.uptoBulkAll [d0] ≤ 1048576 := of_decide_eq_true hk
  simp only [Rows.uptoBulkAll] at hb
  have k0 := h0
  have lt0 : ∀ x ∈ p0, x.block < W.heap.size := by obtain ⟨m, hm⟩ := k0; exact DataW.trod_lt m _ _ _ hm
  obtain ⟨a0, len0, cap0, F0, w0, z0⟩ : ∃ (y : A) (len cap : Nat) (F : Nat → List A), v0 = y.val (fun _ => none) ∧ Go.Eng.IsSlD W 1048576 4 Go.Proofs.Ytglbldhineggaaa.DG.KH y len cap F := by
    obtain ⟨fuel, hf⟩ := h0
    obtain ⟨y, len, cap, F, e1, e2⟩ := Go.Eng.open_sld (bulk_ok _) (B := 1048576) (by decide) Try.underlying44 ks0 hf (show Rows.uptoBulk d0 ≤ 1048576 by omega) (okWide_slice Try.underlying44 (hval 0 44 v0 rfl rfl))
    rw [cl0] at e2
    exact ⟨y, len, cap, F, e1, e2⟩
  subst w0
  clear hA0 hval0
  refine (Go.Eng.Fn.top (args := [.a a0]) (Go.Eng.roOf.ok W) ?_ (Go.Proofs.Ytglbldhineggaaa.DG.top7 W a0 len0 cap0 F0 z0)).mono fun e W' ⟨he, bel⟩ => ?_
  · intro v hv
    simp only [List.mem_cons, List.not_mem_nil, or_false] at hv
    subst hv
    · exact Go.Eng.IsSlD.ok z0
  subst he
  exact ⟨_, rfl, _, _, _, [], _, [], hW', trodAll_mk1 (shut_bool Try.underlying4 _), (trodAll_cons_mk (Below.trod laidOut (by kernel_rfl) (of_decide_eq_true (by kernel_rfl)) k0 bel lt0) trodAll_mk0), rfl, bel.frame _, fun h => by cases h⟩
theorem proved : Rows.DigestHashesUptoSaid :=
  OpenClaim.holds_of_cond 7 Try.f7 rfl rfl rfl rfl rfl rfl rfl ⟨rfl, rfl, rfl, rfl, rfl⟩ rfl rfl rfl rfl rfl (by kernel_rfl) Try.func7 (by kernel_rfl)
    (of_decide_eq_true (by kernel_rfl)) (by unfold Func.isWrapper; first | (rw [if_pos (by decide +kernel)]; kernel_rfl) | (rw [if_neg (by decide +kernel)]; exact ⟨rfl, rfl⟩))
    (fun os started H enc _ F => lifted os started H enc F)
#print axioms proved
end Go.Proofs.Ytglbldhineggaaa.digestHashesUpto
namespace Go.Proofs.Ytglbldhineggaaa
/-- The row, under a short name, for the claim. -/
theorem digestHashesUpto_holds : Rows.DigestHashesUptoSaid := digestHashesUpto.proved
end Go.Proofs.Ytglbldhineggaaa
