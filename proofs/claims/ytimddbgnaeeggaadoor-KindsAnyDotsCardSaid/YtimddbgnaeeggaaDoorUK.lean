import Derived.Test.YtimddbgnaeeggaaDoorKN
namespace Go.Proofs.YtimddbgnaeeggaaDoor.KD
open Go.Eng
set_option maxRecDepth 100000
theorem flat_dec {x : Nat} {A : List Nat} (h : AllV (x :: A)) : decL (flat (x :: A)) = some (x, (enc x).length) := by
  rw [flat_cons]; exact decL_enc (h x (by simp)) _
theorem flat_take (x : Nat) (A : List Nat) : (flat (x :: A)).take (enc x).length = enc x := by rw [flat_cons]; exact List.take_left' rfl
theorem flat_drop (x : Nat) (A : List Nat) : (flat (x :: A)).drop (enc x).length = flat A := by rw [flat_cons]; exact List.drop_left' rfl
theorem flat_clen (x : Nat) (A : List Nat) : (flat (x :: A)).length = (enc x).length + (flat A).length := by rw [flat_cons, List.length_append]
theorem flat_ne (x : Nat) (A : List Nat) : ((bs (flat (x :: A))).data.toList == ([] : List UInt8)) = false := by
  show (flat (x :: A) == []) = false
  have := enc_pos x
  have h := flat_clen x A
  cases e : flat (x :: A) with
  | nil => rw [e] at h; simp at h; omega
  | cons b T => rfl
theorem allv_tail {x : Nat} {A : List Nat} (h : AllV (x :: A)) : AllV A := fun r hr => h r (by simp [hr])
theorem bs_tail (b : UInt8) (T : List UInt8) : (bs (b :: T)).extract (Int.toNat 1) (bs (b :: T)).size = bs T := by
  rw [bs_extract, bs_size]
  congr 1
  show List.take ((b :: T).length - 1) (List.drop 1 (b :: T)) = T
  rw [List.drop_succ_cons, List.drop_zero, List.length_cons, Nat.add_sub_cancel, List.take_of_length_le (Nat.le_refl _)]
theorem bs_head (b : UInt8) (T : List UInt8) : (bs (b :: T)).extract 0 (Int.toNat 1) = bs [b] := by
  rw [bs_extract]; rfl
open Classical in
@[irreducible] noncomputable def kd (L : List UInt8) : Nat := if h : IsVa L then (Classical.choose h).kind.toNat else 0
theorem kd_va {v : Va} (hv : v.ok) {L : List UInt8} (e : L = v.bytes) : kd L = v.kind.toNat := by
  have h : IsVa L := ⟨v, hv, e⟩
  unfold kd
  rw [dif_pos h]
  have hc := Classical.choose_spec h
  rw [Va.inj hc.1 hv (hc.2.symm.trans e)]
theorem kd_no {L : List UInt8} (h : ¬ IsVa L) : kd L = 0 := by unfold kd; rw [dif_neg h]
section
variable {ro : Addr → A → Prop}
set_option maxHeartbeats 1000000 in
theorem kindB (L : List UInt8) {K : V → Hp → Prop} (hK : K (.a (.int .u8 (kd L : Nat))) []) : Go.Eng.Fn Tryd.prog ro 24 [.a (.str (bs L))] [] K :=
  kindAll L (fun v hv e => by rw [← kd_va hv e]; exact hK) (fun h => by rw [kd_no h] at hK; exact hK)
end
end Go.Proofs.YtimddbgnaeeggaaDoor.KD
