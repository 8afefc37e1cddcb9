import Derived.Test.YtglbldhineggaaaDF
namespace Go.Proofs.Ytglbldhineggaaa.DG
open Go.Eng
set_option maxRecDepth 100000
@[irreducible] def u32s (s : List UInt32) : List A := s.map fun b => .int .u32 b.toNat
theorem u32s_length (l : List UInt32) : (u32s l).length = l.length := by simp [u32s]
theorem u32s_get {l : List UInt32} {n : Nat} (h : n < l.length) : (u32s l)[n]? = some (.int .u32 (l[n].toNat : Int)) := by simp [u32s, h]
theorem fw_get {cs : List A} {L : List UInt32} (h : cs = u32s L) {n : Nat} {x : UInt32} (hx : L[n]? = some x) : cs[n]? = some (.int .u32 (x.toNat : Int)) := by
  subst h
  obtain ⟨hn, rfl⟩ := List.getElem?_eq_some_iff.1 hx
  exact u32s_get hn
theorem fw_len {cs : List A} {L : List UInt32} (h : cs = u32s L) : cs.length = L.length := by subst h; exact u32s_length L
theorem fw_set {cs : List A} {L : List UInt32} (h : cs = u32s L) {n : Nat} {v : Int} {b : UInt32} (hv : v = b.toNat) : storeL cs n [.int .u32 v] = u32s (L.set n b) := by
  subst h hv
  simp only [storeL, u32s]
  simp [List.map_set]
theorem fw_setN {cs : List A} {L : List UInt32} (h : cs = u32s L) {m n : Nat} {b : UInt32} (hn : m = n) : storeL cs m [.int .u32 (b.toNat : Int)] = u32s (L.set n b) := by
  subst hn
  exact fw_set h rfl
theorem whole_of {l : List A} {n : Nat} (h : l.length = n) : List.drop 0 (List.take (0 + n) l) = l := by
  rw [Nat.zero_add, List.drop_zero, List.take_of_length_le (by omega)]
theorem store_all {l m : List A} (h : l.length = m.length) : storeL l 0 m = m := by
  rw [storeL_row _ _ _ (by omega)]
  simp [h]
theorem ren_fw {l : List A} {L : List UInt32} (e : l = u32s L) (δ : Nat → Nat) (ty : TypeId) (mk : Bool) : some (Ob.cells l ty mk) = some ((Ob.cells l ty mk).ren δ) := by
  subst e
  have : (u32s L).map (A.ren δ) = u32s L := by simp [u32s, A.ren]
  simp only [Ob.ren, this]
theorem all_fw {l : List A} {L : List UInt32} (e : l = u32s L) (n : Nat) : l.all (A.okb n) = true := by subst e; simp [u32s, A.okb]
theorem forceL_fw {l : List A} {L : List UInt32} {K : List A → Prop} (_ : l = u32s L) (h : K l) : forceL l K := by rw [forceL_eq]; exact h
theorem forceL_rfw {l : List A} {L : List UInt32} {δ : Nat → Nat} {K : List A → Prop} (e : l = u32s L) (h : K l) : forceL (l.map (A.ren δ)) K := by
  have : l.map (A.ren δ) = l := by subst e; simp [u32s, A.ren]
  rw [forceL_eq, this]; exact h
/-- A row of whole numbers. -/
def Flat (l : List A) : Prop := ∀ x ∈ l, ∃ k n, x = .int k n
theorem Flat.u8 {l : List A} {L : List UInt8} (e : l = u8s L) : Flat l := by
  subst e
  intro x hx
  simp only [u8s, List.mem_map] at hx
  obtain ⟨b, _, rfl⟩ := hx
  exact ⟨_, _, rfl⟩
theorem Flat.u32 {l : List A} {L : List UInt32} (e : l = u32s L) : Flat l := by
  subst e
  intro x hx
  simp only [u32s, List.mem_map] at hx
  obtain ⟨b, _, rfl⟩ := hx
  exact ⟨_, _, rfl⟩
theorem Flat.ren {l : List A} (h : Flat l) (δ : Nat → Nat) : l.map (A.ren δ) = l := by
  induction l with
  | nil => rfl
  | cons x l ih =>
    obtain ⟨k, n, rfl⟩ := h x (by simp)
    rw [List.map_cons, ih fun y hy => h y (by simp [hy])]
    rfl
theorem Flat.all {l : List A} (h : Flat l) (n : Nat) : l.all (A.okb n) = true := by
  induction l with
  | nil => rfl
  | cons x l ih =>
    obtain ⟨k, m, rfl⟩ := h x (by simp)
    rw [List.all_cons, ih fun y hy => h y (by simp [hy])]
    rfl
theorem Flat.app {l m : List A} (h : Flat l) (h' : Flat m) : Flat (l ++ m) := fun x hx => (List.mem_append.1 hx).elim (h x) (h' x)
theorem ren_fl {l : List A} (h : Flat l) (δ : Nat → Nat) (ty : TypeId) (mk : Bool) : some (Ob.cells l ty mk) = some ((Ob.cells l ty mk).ren δ) := by
  simp only [Ob.ren, h.ren δ]
theorem forceL_fl {l : List A} {K : List A → Prop} (_ : Flat l) (h : K l) : forceL l K := by rw [forceL_eq]; exact h
theorem forceL_rfl {l : List A} {δ : Nat → Nat} {K : List A → Prop} (e : Flat l) (h : K l) : forceL (l.map (A.ren δ)) K := by
  rw [forceL_eq, e.ren]; exact h
theorem ofInt32 (a : UInt32) : BitVec.ofInt 32 (a.toNat : Int) = a.toBitVec := by
  rw [BitVec.ofInt_natCast]
  exact BitVec.ofNat_toNat 32 a.toBitVec
theorem wrap32 (x : BitVec 32) : IntKind.u32.wrap (x.toNat : Int) = ((UInt32.ofBitVec x).toNat : Int) := by
  rw [u32w, Nat.mod_eq_of_lt x.isLt]; rfl
theorem w_add (a b : UInt32) : IntKind.u32.wrap ((a.toNat : Int) + b.toNat) = ((a + b).toNat : Int) := by
  rw [← Int.natCast_add, u32w, UInt32.toNat_add]
theorem w_xor (a b : UInt32) : bitx .xor .u32 (a.toNat : Int) b.toNat = ((a ^^^ b).toNat : Int) := by
  show IntKind.u32.wrap (BitVec.ofInt 32 (a.toNat : Int) ^^^ BitVec.ofInt 32 (b.toNat : Int)).toNat = _
  rw [ofInt32, ofInt32, wrap32]; rfl
theorem w_and (a b : UInt32) : bitx .and .u32 (a.toNat : Int) b.toNat = ((a &&& b).toNat : Int) := by
  show IntKind.u32.wrap (BitVec.ofInt 32 (a.toNat : Int) &&& BitVec.ofInt 32 (b.toNat : Int)).toNat = _
  rw [ofInt32, ofInt32, wrap32]; rfl
theorem w_or (a b : UInt32) : bitx .or .u32 (a.toNat : Int) b.toNat = ((a ||| b).toNat : Int) := by
  show IntKind.u32.wrap (BitVec.ofInt 32 (a.toNat : Int) ||| BitVec.ofInt 32 (b.toNat : Int)).toNat = _
  rw [ofInt32, ofInt32, wrap32]; rfl
theorem w_andNot (a b : UInt32) : bitx .andNot .u32 (a.toNat : Int) b.toNat = ((a &&& ~~~b).toNat : Int) := by
  show IntKind.u32.wrap (BitVec.ofInt 32 (a.toNat : Int) &&& ~~~ BitVec.ofInt 32 (b.toNat : Int)).toNat = _
  rw [ofInt32, ofInt32, wrap32]; rfl
theorem w_not (a : UInt32) : bitx .xor .u32 (if IntKind.u32.signed then -1 else IntKind.u32.max) (a.toNat : Int) = ((~~~a).toNat : Int) := by
  have h : BitVec.ofInt 32 (if IntKind.u32.signed then -1 else IntKind.u32.max) = BitVec.allOnes 32 := by decide +kernel
  show IntKind.u32.wrap (BitVec.ofInt 32 (if IntKind.u32.signed then -1 else IntKind.u32.max) ^^^ BitVec.ofInt 32 (a.toNat : Int)).toNat = _
  rw [h, ofInt32, wrap32, BitVec.allOnes_xor]; rfl
@[irreducible] def shl (a : UInt32) (n : Nat) : UInt32 := UInt32.ofNat (a.toNat * 2 ^ n)
@[irreducible] def shr (a : UInt32) (n : Nat) : UInt32 := UInt32.ofNat (a.toNat / 2 ^ n)
theorem w_shl (a : UInt32) {k : Int} {n m : Nat} (hk : min k.toNat IntKind.u32.bits = n) (hm : n = m) : IntKind.u32.wrap ((a.toNat : Int) * 2 ^ min k.toNat IntKind.u32.bits) = ((shl a m).toNat : Int) := by
  subst hm
  rw [hk, show (2 : Int) ^ n = ((2 ^ n : Nat) : Int) by simp, ← Int.natCast_mul, u32w]
  simp only [shl, UInt32.toNat_ofNat']
theorem w_shr (a : UInt32) {k : Int} {n : Nat} (hk : min k.toNat IntKind.u32.bits = n) : (a.toNat : Int).fdiv (2 ^ min k.toNat IntKind.u32.bits) = ((shr a n).toNat : Int) := by
  rw [hk, show (2 : Int) ^ n = ((2 ^ n : Nat) : Int) by simp, fdivN]
  simp only [shr, UInt32.toNat_ofNat']
  rw [Nat.mod_eq_of_lt]
  exact Nat.lt_of_le_of_lt (Nat.div_le_self _ _) a.toNat_lt
/-- a word turned to the right -/
@[irreducible] def rotr (a : UInt32) (n : Nat) : UInt32 := shr a n ||| shl a (32 - n)
end Go.Proofs.Ytglbldhineggaaa.DG
