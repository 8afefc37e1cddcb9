import Derived.Test.YtimddbgnaeeggaaDoorKB
namespace Go.Proofs.YtimddbgnaeeggaaDoor.KD
open Go.Eng
set_option maxRecDepth 100000
/-! ### Runes in bytes, plainly. -/
def vr (r : Nat) : Prop := r < 55296 ∨ (57344 ≤ r ∧ r ≤ 1114111)
instance (r : Nat) : Decidable (vr r) := by unfold vr; infer_instance
@[irreducible] def enc (r : Nat) : List UInt8 :=
  if r < 128 then [UInt8.ofNat r]
  else if r < 2048 then [UInt8.ofNat (192 + r / 64), UInt8.ofNat (128 + r % 64)]
  else if r < 65536 then [UInt8.ofNat (224 + r / 4096), UInt8.ofNat (128 + r / 64 % 64), UInt8.ofNat (128 + r % 64)]
  else [UInt8.ofNat (240 + r / 262144), UInt8.ofNat (128 + r / 4096 % 64), UInt8.ofNat (128 + r / 64 % 64), UInt8.ofNat (128 + r % 64)]
theorem enc1 {r : Nat} (h : r < 128) : enc r = [UInt8.ofNat r] := by unfold enc; rw [if_pos h]
theorem enc2 {r : Nat} (h1 : ¬ r < 128) (h : r < 2048) : enc r = [UInt8.ofNat (192 + r / 64), UInt8.ofNat (128 + r % 64)] := by unfold enc; rw [if_neg h1, if_pos h]
theorem enc3 {r : Nat} (h1 : ¬ r < 2048) (h : r < 65536) : enc r = [UInt8.ofNat (224 + r / 4096), UInt8.ofNat (128 + r / 64 % 64), UInt8.ofNat (128 + r % 64)] := by unfold enc; rw [if_neg (show ¬ r < 128 by omega), if_neg h1, if_pos h]
theorem enc4 {r : Nat} (h1 : ¬ r < 65536) : enc r = [UInt8.ofNat (240 + r / 262144), UInt8.ofNat (128 + r / 4096 % 64), UInt8.ofNat (128 + r / 64 % 64), UInt8.ofNat (128 + r % 64)] := by unfold enc; rw [if_neg (show ¬ r < 128 by omega), if_neg (show ¬ r < 2048 by omega), if_neg h1]
/-- The rune at the head of bytes, and how many bytes it takes. -/
@[irreducible] def decL : List UInt8 → Option (Nat × Nat)
  | [] => none
  | b0 :: T =>
    if b0.toNat < 128 then some (b0.toNat, 1)
    else if b0.toNat / 32 = 6 then
      match T with
      | b1 :: _ => if b1.toNat / 64 = 2 ∧ 128 ≤ b0.toNat % 32 * 64 + b1.toNat % 64 then some (b0.toNat % 32 * 64 + b1.toNat % 64, 2) else none
      | _ => none
    else if b0.toNat / 16 = 14 then
      match T with
      | b1 :: b2 :: _ => if (b1.toNat / 64 = 2 ∧ b2.toNat / 64 = 2) ∧ 2048 ≤ b0.toNat % 16 * 4096 + b1.toNat % 64 * 64 + b2.toNat % 64 ∧ vr (b0.toNat % 16 * 4096 + b1.toNat % 64 * 64 + b2.toNat % 64) then some (b0.toNat % 16 * 4096 + b1.toNat % 64 * 64 + b2.toNat % 64, 3) else none
      | _ => none
    else if b0.toNat / 8 = 30 then
      match T with
      | b1 :: b2 :: b3 :: _ => if (b1.toNat / 64 = 2 ∧ b2.toNat / 64 = 2 ∧ b3.toNat / 64 = 2) ∧ 65536 ≤ b0.toNat % 8 * 262144 + b1.toNat % 64 * 4096 + b2.toNat % 64 * 64 + b3.toNat % 64 ∧ vr (b0.toNat % 8 * 262144 + b1.toNat % 64 * 4096 + b2.toNat % 64 * 64 + b3.toNat % 64) then some (b0.toNat % 8 * 262144 + b1.toNat % 64 * 4096 + b2.toNat % 64 * 64 + b3.toNat % 64, 4) else none
      | _ => none
    else none
theorem ofN {b : UInt8} {n : Nat} (h : b.toNat = n) : UInt8.ofNat n = b := by
  rw [← h]; simp
theorem decL_sound {L : List UInt8} {r n : Nat} (h : decL L = some (r, n)) : vr r ∧ n = (enc r).length ∧ L = enc r ++ L.drop n := by
  unfold decL at h
  match L, h with
  | b0 :: T, h =>
    have l0 := b0.toNat_lt
    simp only at h
    split at h
    · rename_i h1
      injection h with h; injection h with h2 h3
      subst h2 h3
      refine ⟨.inl (by omega), ?_, ?_⟩
      · rw [enc1 h1]; rfl
      · rw [enc1 h1, ofN rfl]; rfl
    · rename_i h1
      split at h
      · rename_i h2
        match T, h with
        | b1 :: T, h =>
          have l1 := b1.toNat_lt
          simp only at h
          split at h
          · rename_i h3
            injection h with h; injection h with h4 h5
            have g1 : ¬ r < 128 := by omega
            have g2 : r < 2048 := by omega
            subst h5
            refine ⟨.inl (by omega), ?_, ?_⟩
            · rw [enc2 g1 g2]; rfl
            · rw [enc2 g1 g2, ofN (b := b0) (by omega), ofN (b := b1) (by omega)]; rfl
          · cases h
      · split at h
        · rename_i h2 h2'
          match T, h with
          | b1 :: b2 :: T, h =>
            have l1 := b1.toNat_lt
            have l2 := b2.toNat_lt
            simp only at h
            split at h
            · rename_i h3
              injection h with h; injection h with h4 h5
              have g1 : ¬ r < 2048 := by omega
              have g2 : r < 65536 := by omega
              subst h5
              refine ⟨by rw [← h4]; exact h3.2.2, ?_, ?_⟩
              · rw [enc3 g1 g2]; rfl
              · rw [enc3 g1 g2, ofN (b := b0) (by omega), ofN (b := b1) (by omega), ofN (b := b2) (by omega)]; rfl
            · cases h
        · split at h
          · rename_i h2 h2' h2''
            match T, h with
            | b1 :: b2 :: b3 :: T, h =>
              have l1 := b1.toNat_lt
              have l2 := b2.toNat_lt
              have l3 := b3.toNat_lt
              simp only at h
              split at h
              · rename_i h3
                injection h with h; injection h with h4 h5
                have g1 : ¬ r < 65536 := by omega
                subst h5
                refine ⟨by rw [← h4]; exact h3.2.2, ?_, ?_⟩
                · rw [enc4 g1]; rfl
                · rw [enc4 g1, ofN (b := b0) (by omega), ofN (b := b1) (by omega), ofN (b := b2) (by omega), ofN (b := b3) (by omega)]; rfl
              · cases h
          · cases h
theorem tN {n : Nat} (h : n < 256) : (UInt8.ofNat n).toNat = n := by
  simp; omega
theorem decL_enc {r : Nat} (h : vr r) (R : List UInt8) : decL (enc r ++ R) = some (r, (enc r).length) := by
  have hr : r ≤ 1114111 := by unfold vr at h; omega
  by_cases h1 : r < 128
  · rw [enc1 h1]
    unfold decL
    simp only [List.cons_append, List.nil_append]
    rw [tN (by omega), if_pos h1]; rfl
  · by_cases h2 : r < 2048
    · rw [enc2 h1 h2]
      unfold decL
      simp only [List.cons_append, List.nil_append]
      rw [tN (show 192 + r / 64 < 256 by omega), tN (show 128 + r % 64 < 256 by omega), if_neg (by omega), if_pos (by omega), if_pos (by omega)]
      congr 2; omega
    · by_cases h3 : r < 65536
      · rw [enc3 h2 h3]
        unfold decL
        simp only [List.cons_append, List.nil_append]
        rw [tN (show 224 + r / 4096 < 256 by omega), tN (show 128 + r / 64 % 64 < 256 by omega), tN (show 128 + r % 64 < 256 by omega)]
        have e : (224 + r / 4096) % 16 * 4096 + (128 + r / 64 % 64) % 64 * 64 + (128 + r % 64) % 64 = r := by omega
        rw [e, if_neg (by omega), if_neg (by omega), if_pos (by omega), if_pos ⟨by omega, by omega, h⟩]; rfl
      · rw [enc4 h3]
        unfold decL
        simp only [List.cons_append, List.nil_append]
        rw [tN (show 240 + r / 262144 < 256 by omega), tN (show 128 + r / 4096 % 64 < 256 by omega), tN (show 128 + r / 64 % 64 < 256 by omega), tN (show 128 + r % 64 < 256 by omega)]
        have e : (240 + r / 262144) % 8 * 262144 + (128 + r / 4096 % 64) % 64 * 4096 + (128 + r / 64 % 64) % 64 * 64 + (128 + r % 64) % 64 = r := by omega
        rw [e, if_neg (by omega), if_neg (by omega), if_neg (by omega), if_pos (by omega), if_pos ⟨by omega, by omega, h⟩]; rfl
theorem enc_pos (r : Nat) : 0 < (enc r).length := by
  unfold enc
  repeat' split
  all_goals simp
theorem enc_le4 (r : Nat) : (enc r).length ≤ 4 := by
  unfold enc
  repeat' split
  all_goals simp
theorem get_bs (L : List UInt8) (k : Nat) : (bs L).get! k = (L[k]?).getD 0 := by
  show (L.toArray)[k]! = _
  rw [getElem!_def]
  simp
  cases L[k]? <;> rfl
theorem valid_vr (c : Nat) : (Utf8.valid (c : Int) = true) = vr c := by
  unfold Utf8.valid vr
  simp
  omega
set_option linter.unusedSimpArgs false in
set_option maxHeartbeats 2000000 in
/-- What the model decodes. -/
theorem decode_bs (L : List UInt8) (i : Nat) : Utf8.decode (bs L) i = (decL (L.drop i)).getD (65533, 1) ∨ L.length ≤ i := by
  by_cases hi : L.length ≤ i
  · exact .inr hi
  refine .inl ?_
  unfold Utf8.decode
  simp only [get_bs, bs_size]
  have hk : ∀ k, L[i + k]? = (L.drop i)[k]? := fun k => by rw [List.getElem?_drop]
  have hlen : (L.drop i).length = L.length - i := List.length_drop
  have hlt : ∀ k, (i + k < L.length) ↔ k < (L.drop i).length := fun k => by rw [hlen]; omega
  simp only [hk, hlt]
  generalize L.drop i = T at *
  match T with
  | [] => simp at hlen; omega
  | [b0] =>
    have l0 := b0.toNat_lt
    unfold decL
    simp only [List.getElem?_cons_zero, Option.getD_some, List.length_cons, List.length_nil]
    split
    · rfl
    · simp [Utf8.runeError]
      repeat' split
      all_goals rfl
  | [b0, b1] =>
    have l0 := b0.toNat_lt
    have l1 := b1.toNat_lt
    unfold decL
    simp only [List.getElem?_cons_zero, List.getElem?_cons_succ, Option.getD_some, List.length_cons, List.length_nil, Bool.and_eq_true, beq_iff_eq, decide_eq_true_eq, valid_vr, ge_iff_le, Nat.reduceAdd, Nat.zero_add, Nat.add_zero, Nat.reduceLT, and_true, true_and, List.getElem?_nil, Option.getD_none]
    repeat' split
    all_goals first
      | with_reducible rfl
      | (exfalso; omega)
      | (simp only [Option.getD_some, Option.getD_none, Utf8.runeError]; done)
      | (show (65533, 1) = (65533, 1); rfl)
      | (exfalso; simp_all; done)
      | (exfalso; simp_all; omega)
  | [b0, b1, b2] =>
    have l0 := b0.toNat_lt
    have l1 := b1.toNat_lt
    have l2 := b2.toNat_lt
    unfold decL
    simp only [List.getElem?_cons_zero, List.getElem?_cons_succ, Option.getD_some, List.length_cons, List.length_nil, Bool.and_eq_true, beq_iff_eq, decide_eq_true_eq, valid_vr, ge_iff_le, Nat.reduceAdd, Nat.zero_add, Nat.add_zero, Nat.reduceLT, and_true, true_and, List.getElem?_nil, Option.getD_none]
    repeat' split
    all_goals first
      | with_reducible rfl
      | (exfalso; omega)
      | (simp only [Option.getD_some, Option.getD_none, Utf8.runeError]; done)
      | (show (65533, 1) = (65533, 1); rfl)
      | (exfalso; simp_all; done)
      | (exfalso; simp_all; omega)
  | b0 :: b1 :: b2 :: b3 :: T =>
    have l0 := b0.toNat_lt
    have l1 := b1.toNat_lt
    have l2 := b2.toNat_lt
    have l3 := b3.toNat_lt
    unfold decL
    simp only [List.getElem?_cons_zero, List.getElem?_cons_succ, Option.getD_some, List.length_cons, List.length_nil, Bool.and_eq_true, beq_iff_eq, decide_eq_true_eq, valid_vr, ge_iff_le, Nat.reduceAdd, Nat.zero_add, Nat.add_zero, Nat.reduceLT, and_true, true_and, List.getElem?_nil, Option.getD_none]
    repeat' split
    all_goals first
      | with_reducible rfl
      | (exfalso; omega)
      | (simp only [Option.getD_some, Option.getD_none, Utf8.runeError]; done)
      | (show (65533, 1) = (65533, 1); rfl)
      | (exfalso; simp_all; done)
      | (exfalso; simp_all; omega)
theorem runeAt_bs (L : List UInt8) {i : Nat} (h : i < L.length) : runeAt (bs L) i = ((decL (L.drop i)).getD (65533, 1)).1 ∧ runeW (bs L) i = ((decL (L.drop i)).getD (65533, 1)).2 := by
  unfold runeAt runeW
  rcases decode_bs L i with e | e
  · rw [e]; exact ⟨rfl, rfl⟩
  · omega
/-- The bytes of some runes. -/
@[irreducible] def flat (rs : List Nat) : List UInt8 := rs.flatMap enc
theorem flat_nil : flat [] = [] := by unfold flat; rfl
theorem flat_cons (r : Nat) (rs : List Nat) : flat (r :: rs) = enc r ++ flat rs := by unfold flat; simp
theorem flat_append (a b : List Nat) : flat (a ++ b) = flat a ++ flat b := by unfold flat; simp
theorem flat_one (r : Nat) : flat [r] = enc r := by unfold flat; simp
def AllV (rs : List Nat) : Prop := ∀ r ∈ rs, vr r
theorem flat_prefix : ∀ (rs rs' : List Nat) (D : List UInt8), AllV rs → AllV rs' → flat rs ++ D = flat rs' → ∃ rest, rs' = rs ++ rest ∧ D = flat rest
  | [], rs', D, _, _, e => ⟨rs', rfl, by rw [flat_nil] at e; exact e⟩
  | r :: rs, [], D, _, _, e => by
    rw [flat_cons, flat_nil] at e
    have := congrArg List.length e
    have h := enc_pos r
    simp at this
    rw [this.1] at h
    simp at h
  | r :: rs, r' :: rs', D, h, h', e => by
    rw [flat_cons, flat_cons, List.append_assoc] at e
    have e1 := decL_enc (h r (by simp)) (flat rs ++ D)
    have e2 := decL_enc (h' r' (by simp)) (flat rs')
    rw [e, e2] at e1
    injection e1 with e1; injection e1 with e1 e3
    subst e1
    obtain ⟨rest, e4, e5⟩ := flat_prefix rs rs' D (fun x hx => h x (by simp [hx])) (fun x hx => h' x (by simp [hx])) (List.append_cancel_left e)
    exact ⟨rest, by rw [e4]; rfl, e5⟩
theorem flat_inj {rs rs' : List Nat} (h : AllV rs) (h' : AllV rs') (e : flat rs = flat rs') : rs = rs' := by
  obtain ⟨rest, e1, e2⟩ := flat_prefix rs rs' [] h h' (by rw [List.append_nil]; exact e)
  cases rest with
  | nil => rw [e1, List.append_nil]
  | cons r rest =>
    rw [flat_cons] at e2
    have := congrArg List.length e2
    have h := enc_pos r
    simp at this
    omega
/-- Bytes that are runes, rising. -/
def Rise (rs : List Nat) : Prop := rs.Pairwise (· < ·)
@[irreducible] def lastR (rs : List Nat) : Int := match rs.getLast? with
  | some r => (r : Int)
  | none => -1
theorem lastR_nil : lastR [] = -1 := by unfold lastR; rfl
theorem lastR_snoc (rs : List Nat) (r : Nat) : lastR (rs ++ [r]) = r := by unfold lastR; rw [List.getLast?_concat]
theorem rise_snoc {rs : List Nat} (h : Rise rs) {r : Nat} (hr : lastR rs < (r : Int)) : Rise (rs ++ [r]) := by
  unfold Rise at *
  rw [List.pairwise_append]
  refine ⟨h, List.pairwise_singleton _ _, fun x hx y hy => ?_⟩
  obtain rfl := List.mem_singleton.1 hy
  rcases List.eq_nil_or_concat rs with e | ⟨l, z, e⟩
  · rw [e] at hx; simp at hx
  · rw [List.concat_eq_append] at e
    subst e
    rw [lastR_snoc] at hr
    rw [List.pairwise_append] at h
    rcases List.mem_append.1 hx with hx | hx
    · have := h.2.2 x hx z (by simp)
      omega
    · obtain rfl := List.mem_singleton.1 hx
      omega
theorem not_rise {rs rest : List Nat} {r : Nat} (hr : (r : Int) ≤ lastR rs) (h : Rise (rs ++ r :: rest)) : False := by
  unfold Rise at h
  rw [List.pairwise_append] at h
  rcases List.eq_nil_or_concat rs with e | ⟨l, z, e⟩
  · subst e
    rw [lastR_nil] at hr
    omega
  · rw [List.concat_eq_append] at e
    subst e
    rw [lastR_snoc] at hr
    have := h.2.2 z (by simp) r (by simp)
    omega
def Risen (L : List UInt8) : Prop := ∃ rs, AllV rs ∧ Rise rs ∧ L = flat rs
theorem enc_65533 : enc 65533 = [239, 191, 189] := by
  rw [enc3 (by decide) (by decide)]
  rfl
end Go.Proofs.YtimddbgnaeeggaaDoor.KD
