import Derived.Test.YtglbldhineggaaaDR
namespace Go.Proofs.Ytglbldhineggaaa.DG
open Go.Eng
set_option maxRecDepth 100000
/-! ### The digest, plainly. -/
def s0 : St := ⟨1779033703, 3144134277, 1013904242, 2773480762, 1359893119, 2600822924, 528734635, 1541459225⟩
def blkR : Nat → St → List UInt8 → St
  | 0, s, _ => s
  | k + 1, s, L => blockS (blkR k s L) ((L.drop (64 * k)).take 64)
@[irreducible] def blk (k : Nat) (L : List UInt8) : St := blkR k s0 L
theorem blk_0 (L : List UInt8) : blk 0 L = s0 := by unfold blk; rfl
theorem blk_succ (k : Nat) (L : List UInt8) : blk (k + 1) L = blockS (blk k L) ((L.drop (64 * k)).take 64) := by unfold blk; rfl
theorem blk_app (k : Nat) (T X : List UInt8) (h : 64 * k ≤ T.length) : blk k (T ++ X) = blk k T := by
  induction k with
  | zero => rw [blk_0, blk_0]
  | succ k ih =>
    rw [blk_succ, blk_succ, ih (by omega), List.drop_append_of_le_length (by omega), List.take_append_of_le_length (by rw [List.length_drop]; omega)]
/-- What stands behind a text, and the digest. -/
@[irreducible] def padded (T : List UInt8) : List UInt8 := T ++ fillS (T.length % 18446744073709551616)
theorem padded_length (T : List UInt8) : ∃ k, (padded T).length = 64 * k ∧ (padded T).length = T.length + (72 - (T.length + 8) % 64) := by
  unfold padded
  rw [List.length_append, fillS_length]
  have : (T.length % 18446744073709551616 + 8) % 64 = (T.length + 8) % 64 := by omega
  rw [this]
  exact ⟨(T.length + (72 - (T.length + 8) % 64)) / 64, by omega, rfl⟩
@[irreducible] def outB (s : St) : List UInt8 := (List.range 32).map fun i => UInt8.ofNat ((s.row.getD (i / 4) 0).toNat / 2 ^ (24 - 8 * (i % 4)))
theorem outB_length (s : St) : (outB s).length = 32 := by simp [outB]
theorem outB_get (s : St) {i : Nat} (h : i < 32) : (outB s)[i]? = some (UInt8.ofNat ((s.row.getD (i / 4) 0).toNat / 2 ^ (24 - 8 * (i % 4)))) := by simp [outB, h]
@[irreducible] def digest (T : List UInt8) : List UInt8 := outB (blk ((padded T).length / 64) (padded T))
theorem digest_length (T : List UInt8) : (digest T).length = 32 := by unfold digest; exact outB_length _
/-! ### The row of a Hash. -/
@[irreducible] def hrow (s : St) (R : List UInt8) (held n : Nat) : List A := u32s s.row ++ (u8s R ++ [.int .i64 held, .int .u64 n])
theorem hrow_length {s : St} {R : List UInt8} {held n : Nat} (hR : R.length = 64) : (hrow s R held n).length = 74 := by
  unfold hrow
  rw [List.length_append, List.length_append, u32s_length, u8s_length, hR]; rfl
theorem hrow_flat {cs : List A} {s : St} {R : List UInt8} {held n : Nat} (h : cs = hrow s R held n) : Flat cs := by
  subst h
  unfold hrow
  refine (Flat.u32 rfl).app ((Flat.u8 rfl).app fun x hx => ?_)
  simp only [List.mem_cons, List.not_mem_nil, or_false] at hx
  rcases hx with rfl | rfl <;> exact ⟨_, _, rfl⟩
theorem hrow_n {cs : List A} {s : St} {R : List UInt8} {held n : Nat} (h : cs = hrow s R held n) (hR : R.length = 64) : cs[73]? = some (.int .u64 n) := by
  subst h
  unfold hrow
  rw [List.getElem?_append_right (by rw [u32s_length]; exact (by decide : 8 ≤ 73)), u32s_length, List.getElem?_append_right (by rw [u8s_length, hR]; exact (by decide : 64 ≤ 65)), u8s_length, hR]; rfl
theorem hrow_held {cs : List A} {s : St} {R : List UInt8} {held n : Nat} (h : cs = hrow s R held n) (hR : R.length = 64) : cs[72]? = some (.int .i64 held) := by
  subst h
  unfold hrow
  rw [List.getElem?_append_right (by rw [u32s_length]; exact (by decide : 8 ≤ 72)), u32s_length, List.getElem?_append_right (by rw [u8s_length, hR]; exact (by decide : 64 ≤ 64)), u8s_length, hR]; rfl
theorem hrow_rest {cs : List A} {s : St} {R : List UInt8} {held n : Nat} (h : cs = hrow s R held n) (hR : R.length = 64) {j : Nat} (hj : j < 64) : cs[8 + j]? = some (.int .u8 ((R.getD j 0).toNat : Int)) := by
  subst h
  unfold hrow
  have h8 : (u32s s.row).length = 8 := by rw [u32s_length]; rfl
  rw [List.getElem?_append_right (by omega), h8, Nat.add_sub_cancel_left, List.getElem?_append_left (by rw [u8s_length]; omega), u8s_get (by omega), List.getD_eq_getElem?_getD, List.getElem?_eq_getElem (by omega)]; rfl
theorem hrow_state {cs : List A} {s : St} {R : List UInt8} {held n : Nat} (h : cs = hrow s R held n) : List.drop 0 (List.take (0 + Try.prog.types[33].size) cs) = u32s s.row := by
  subst h
  unfold hrow
  have h8 : (u32s s.row).length = 8 := by rw [u32s_length]; rfl
  rw [s33, List.drop_zero, List.take_append_of_le_length (by omega), List.take_of_length_le (by omega)]
theorem storeL_mid (a m b m' : List A) (n : Nat) (hn : n = a.length) (hm : m.length = m'.length) : storeL (a ++ (m ++ b)) n m' = a ++ (m' ++ b) := by
  subst hn
  rw [storeL_row _ _ _ (by simp; omega)]
  rw [List.take_left' rfl, List.append_assoc]
  congr 2
  rw [List.drop_append, List.drop_of_length_le (by omega), List.nil_append, Nat.add_sub_cancel_left, ← hm, List.drop_left' rfl]
theorem hrow_setState {cs : List A} {s s' : St} {R : List UInt8} {held n : Nat} (h : cs = hrow s R held n) : storeL cs 0 (u32s s'.row) = hrow s' R held n := by
  subst h
  unfold hrow
  exact storeL_mid [] _ _ _ 0 rfl (by rw [u32s_length, u32s_length]; rfl)
theorem hrow_setHeld {cs : List A} {s : St} {R : List UInt8} {held n held' : Nat} {v : Int} (h : cs = hrow s R held n) (hR : R.length = 64) (hv : v = held') : storeL cs 72 [.int .i64 v] = hrow s R held' n := by
  subst h hv
  unfold hrow
  have := storeL_mid (u32s s.row ++ u8s R) [.int .i64 held] [.int .u64 n] [.int .i64 held'] 72 (by rw [List.length_append, u32s_length, u8s_length, hR]; rfl) rfl
  rw [List.append_assoc, List.append_assoc] at this
  exact this
theorem hrow_setN {cs : List A} {s : St} {R : List UInt8} {held n n' : Nat} {v : Int} (h : cs = hrow s R held n) (hR : R.length = 64) (hv : v = n') : storeL cs 73 [.int .u64 v] = hrow s R held n' := by
  subst h hv
  unfold hrow
  have := storeL_mid (u32s s.row ++ (u8s R ++ [.int .i64 held])) [.int .u64 n] [] [.int .u64 n'] 73 (by rw [List.length_append, List.length_append, u32s_length, u8s_length, hR]; rfl) rfl
  rw [List.append_assoc, List.append_assoc, List.append_assoc, List.append_assoc] at this
  exact this
theorem hrow_copy {cs : List A} {s : St} {R X : List UInt8} {held n m : Nat} (h : cs = hrow s R held n) (hm : m = 8 + held) (hX : held + X.length ≤ R.length) : storeL cs m (u8s X) = hrow s (R.take held ++ X ++ R.drop (held + X.length)) held n := by
  subst h hm
  unfold hrow
  have h8 : (u32s s.row).length = 8 := by rw [u32s_length]; rfl
  have := storeL_mid (u32s s.row ++ u8s (R.take held)) (u8s ((R.drop held).take X.length)) (u8s (R.drop (held + X.length)) ++ [.int .i64 held, .int .u64 n]) (u8s X) (8 + held)
    (by rw [List.length_append, h8, u8s_length, List.length_take]; omega) (by rw [u8s_length, u8s_length, List.length_take, List.length_drop]; omega)
  have e : u8s R = u8s (R.take held) ++ (u8s ((R.drop held).take X.length) ++ u8s (R.drop (held + X.length))) := by
    rw [← u8s_append, ← u8s_append]
    congr 1
    rw [← List.drop_drop, List.take_append_drop, List.take_append_drop]
  rw [e]
  simp only [u8s_append, List.append_assoc] at this ⊢
  exact this
/-- A Hash that has taken T; its count says n. -/
def HS (T : List UInt8) (n : Nat) (hs : List A) : Prop := ∃ R : List UInt8, R.length = 64 ∧ R.take (T.length % 64) = T.drop (64 * (T.length / 64)) ∧ hs = hrow (blk (T.length / 64) T) R (T.length % 64) n
theorem HS.flat {T : List UInt8} {n : Nat} {hs : List A} (h : HS T n hs) : Flat hs := by
  obtain ⟨R, _, _, h⟩ := h
  exact hrow_flat h
/-- A full block is taken at once. -/
theorem HS.full {T X : List UInt8} {n : Nat} {R : List UInt8} (h0 : T.length % 64 = 0) (hX : X.length = 64) (hR : R.length = 64) : HS (T ++ X) n (hrow (blockS (blk (T.length / 64) T) X) R 0 n) := by
  have hl : (T ++ X).length = T.length + 64 := by rw [List.length_append, hX]
  have e1 : (T ++ X).length / 64 = T.length / 64 + 1 := by omega
  have e2 : (T ++ X).length % 64 = 0 := by omega
  refine ⟨R, hR, ?_, ?_⟩
  · rw [e2, e1, List.take_zero, List.drop_of_length_le (by omega)]
  · rw [e2, e1, blk_succ, blk_app _ _ _ (by omega), List.drop_append, List.drop_of_length_le (by omega), List.nil_append, show 64 * (T.length / 64) - T.length = 0 by omega, List.drop_zero, List.take_of_length_le (by omega)]
/-- Bytes are put behind those that there are. -/
theorem HS.part {T X R : List UInt8} {n : Nat} (hR : R.length = 64) (hRt : R.take (T.length % 64) = T.drop (64 * (T.length / 64))) (hX : T.length % 64 + X.length < 64) :
    HS (T ++ X) n (hrow (blk (T.length / 64) T) (R.take (T.length % 64) ++ X ++ R.drop (T.length % 64 + X.length)) (T.length % 64 + X.length) n) := by
  have hl : (T ++ X).length = T.length + X.length := List.length_append
  have e1 : (T ++ X).length / 64 = T.length / 64 := by omega
  have e2 : (T ++ X).length % 64 = T.length % 64 + X.length := by omega
  refine ⟨R.take (T.length % 64) ++ X ++ R.drop (T.length % 64 + X.length), ?_, ?_, by rw [e1, e2, blk_app _ _ _ (by omega)]⟩
  · simp only [List.length_append, List.length_take, List.length_drop]; omega
  · rw [e2, e1, List.take_left' (by simp only [List.length_append, List.length_take]; omega), List.drop_append_of_le_length (by omega), hRt]
theorem HS.fill {T X R : List UInt8} {n : Nat} (hR : R.length = 64) (hRt : R.take (T.length % 64) = T.drop (64 * (T.length / 64))) (hX : T.length % 64 + X.length = 64) :
    HS (T ++ X) n (hrow (blockS (blk (T.length / 64) T) (R.take (T.length % 64) ++ X ++ R.drop (T.length % 64 + X.length))) (R.take (T.length % 64) ++ X ++ R.drop (T.length % 64 + X.length)) 0 n) := by
  have hl : (T ++ X).length = T.length + X.length := List.length_append
  have e1 : (T ++ X).length / 64 = T.length / 64 + 1 := by omega
  have e2 : (T ++ X).length % 64 = 0 := by omega
  refine ⟨R.take (T.length % 64) ++ X ++ R.drop (T.length % 64 + X.length), ?_, ?_, ?_⟩
  · simp only [List.length_append, List.length_take, List.length_drop]; omega
  · rw [e2, e1, List.take_zero, List.drop_of_length_le (by omega)]
  · rw [e1, e2, blk_succ, blk_app _ _ _ (by omega), List.drop_append_of_le_length (by omega), hRt, List.drop_of_length_le (i := T.length % 64 + X.length) (by omega), List.append_nil, List.take_of_length_le (by rw [List.length_append, List.length_drop]; omega)]
theorem HS.new : HS [] 0 (hrow s0 (List.replicate 64 0) 0 0) := ⟨List.replicate 64 0, by simp, rfl, by show hrow s0 _ 0 0 = hrow (blk 0 []) _ 0 0; rw [blk_0]⟩
end Go.Proofs.Ytglbldhineggaaa.DG
