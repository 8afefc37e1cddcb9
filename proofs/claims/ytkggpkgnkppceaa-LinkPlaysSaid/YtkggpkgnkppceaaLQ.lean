import Derived.Test.YtkggpkgnkppceaaLP
namespace Go.Proofs.Ytkggpkgnkppceaa.LK
open Go.Eng
set_option maxRecDepth 100000
/-! ### Rows of counted flights. -/
structure Cf where
  x : Fl
  n : Int
def Cf.row (c : Cf) : List A := [.int .u8 c.x.f.toNat, .int .u8 c.x.t.toNat, .str c.x.s, .int .i64 c.n]
@[irreducible] def cfs (L : List Cf) : List A := L.flatMap Cf.row
theorem cfs_nil : cfs [] = [] := by unfold cfs; rfl
theorem cfs_cons (x : Cf) (L : List Cf) : cfs (x :: L) = x.row ++ cfs L := by unfold cfs; rfl
theorem cfs_append (L M : List Cf) : cfs (L ++ M) = cfs L ++ cfs M := by unfold cfs; exact List.flatMap_append
theorem cfs_length : ∀ L : List Cf, (cfs L).length = L.length * 4
  | [] => by rw [cfs_nil]; rfl
  | x :: L => by rw [cfs_cons, List.length_append, cfs_length L, List.length_cons]; show 4 + _ = _; omega
theorem Pl.cfs' : ∀ L : List Cf, Pl (cfs L)
  | [] => by rw [cfs_nil]; exact ⟨fun _ => rfl, fun _ => rfl⟩
  | x :: L => by rw [cfs_cons]; exact Pl.app ⟨fun _ => rfl, fun _ => rfl⟩ (Pl.cfs' L)
theorem Pl.cfs {l : List A} {L : List Cf} (h : l = cfs L) : Pl l := by subst h; exact Pl.cfs' L
theorem cfs_split {L : List Cf} {i : Nat} {x : Cf} (h : L[i]? = some x) : cfs L = cfs (L.take i) ++ (x.row ++ cfs (L.drop (i + 1))) := by
  obtain ⟨hi, rfl⟩ := List.getElem?_eq_some_iff.1 h
  rw [← cfs_cons, ← cfs_append]
  congr 1
  rw [← List.drop_eq_getElem_cons hi, List.take_append_drop]
theorem cfs_cell {cs : List A} {L : List Cf} (e : cs = cfs L) {i o k : Nat} {x : Cf} (h : L[i]? = some x) (hk : k < 4) (ho : o = i * 4 + k) : cs[o]? = x.row[k]? := by
  subst e ho
  obtain ⟨hi, _⟩ := List.getElem?_eq_some_iff.1 h
  have hl : (cfs (L.take i)).length = i * 4 := by rw [cfs_length, List.length_take]; omega
  rw [cfs_split h, List.getElem?_append_right (by omega), hl, Nat.add_sub_cancel_left, List.getElem?_append_left (by exact hk)]
theorem cfs_over {cs : List A} {A' B : List Cf} {j o : Nat} (e : cs = cfs A') (ho : o = j * 4) (h : j + B.length ≤ A'.length) : storeL cs o (cfs B) = cfs (A'.take j ++ B ++ A'.drop (j + B.length)) := by
  have hl : cs.length = A'.length * 4 := by rw [e, cfs_length]
  have ht : ∀ n, n ≤ A'.length → List.take (n * 4) cs = cfs (A'.take n) := fun n hn => by
    subst e
    have : cfs A' = cfs (A'.take n) ++ cfs (A'.drop n) := by rw [← cfs_append, List.take_append_drop]
    rw [this, List.take_left' (by rw [cfs_length, List.length_take]; omega)]
  have hd : ∀ n, n ≤ A'.length → List.drop (n * 4) cs = cfs (A'.drop n) := fun n hn => by
    subst e
    have : cfs A' = cfs (A'.take n) ++ cfs (A'.drop n) := by rw [← cfs_append, List.take_append_drop]
    rw [this, List.drop_left' (by rw [cfs_length, List.length_take]; omega)]
  rw [ho, storeL_row _ _ _ (by rw [cfs_length, hl]; omega), cfs_length, ht j (by omega), show j * 4 + B.length * 4 = (j + B.length) * 4 by omega, hd _ h, ← cfs_append, ← cfs_append]
theorem cfs_take {cs : List A} {L : List Cf} (e : cs = cfs L) (n : Nat) (hn : n ≤ L.length) : List.take (n * 4) cs = cfs (L.take n) := by
  subst e
  have : cfs L = cfs (L.take n) ++ cfs (L.drop n) := by rw [← cfs_append, List.take_append_drop]
  rw [this, List.take_left' (by rw [cfs_length, List.length_take]; omega)]
/-- A count is set. -/
theorem cfs_set {cs : List A} {L : List Cf} (e : cs = cfs L) {i o : Nat} {x : Cf} (h : L[i]? = some x) (m : Int) (ho : o = i * 4 + 3) : storeL cs o [.int .i64 m] = cfs (L.set i ⟨x.x, m⟩) := by
  subst e ho
  obtain ⟨hi, _⟩ := List.getElem?_eq_some_iff.1 h
  have hl : (cfs (L.take i)).length = i * 4 := by rw [cfs_length, List.length_take]; omega
  have h' : (L.set i ⟨x.x, m⟩)[i]? = some ⟨x.x, m⟩ := by rw [List.getElem?_set, if_pos rfl, if_pos hi]
  have e1 : cfs L = (cfs (L.take i) ++ [.int .u8 x.x.f.toNat, .int .u8 x.x.t.toNat, .str x.x.s]) ++ ([.int .i64 x.n] ++ cfs (L.drop (i + 1))) := by
    rw [cfs_split h, List.append_assoc]; rfl
  have e2 : cfs (L.set i ⟨x.x, m⟩) = (cfs (L.take i) ++ [.int .u8 x.x.f.toNat, .int .u8 x.x.t.toNat, .str x.x.s]) ++ ([.int .i64 m] ++ cfs (L.drop (i + 1))) := by
    rw [cfs_split h', List.take_set_of_le (Nat.le_refl i), List.drop_set_of_lt (by omega), List.append_assoc]; rfl
  rw [e1, e2, storeL_mid _ [.int .i64 x.n] _ [.int .i64 m] (i * 4 + 3) (by rw [List.length_append, hl]; rfl) rfl]
def y0 : Cf := ⟨z0, 0⟩
theorem cfs_zeros (n : Nat) : repl [.int .u8 0, .int .u8 0, .str ByteArray.empty, .int .i64 0] (n * 4) = cfs (List.replicate n y0) := by
  apply List.ext_getElem?
  intro j
  have hl : (cfs (List.replicate n y0)).length = n * 4 := by rw [cfs_length, List.length_replicate]
  by_cases hj : j < n * 4
  · have hi : (List.replicate n y0)[j / 4]? = some y0 := by rw [List.getElem?_replicate, if_pos (by omega)]
    rw [cfs_cell rfl hi (k := j % 4) (by omega) (by omega)]
    have hr : j % 4 = 0 ∨ j % 4 = 1 ∨ j % 4 = 2 ∨ j % 4 = 3 := by omega
    simp only [repl, List.getElem?_map, List.getElem?_range hj, Option.map_some, List.length_cons, List.length_nil]
    rcases hr with h | h | h | h <;> rw [h] <;> rfl
  · rw [List.getElem?_eq_none (by simp only [repl, List.length_map, List.length_range]; omega), List.getElem?_eq_none (by rw [hl]; omega)]
theorem s53 : Try.prog.types[53].size = 4 := rfl
theorem b53 : Try.prog.types[53].bytes = 32 := rfl
theorem cf_in {cs xr : List A} {L y : List Cf} {x : Cf} {o : Nat} (e : cs = cfs (L ++ y)) (hx : xr = x.row) (ho : o = L.length * 4) (hy : 0 < y.length) : storeL cs o xr = cfs (L ++ [x] ++ y.tail) := by
  subst hx
  have hr : x.row = cfs [x] := by rw [cfs_cons, cfs_nil, List.append_nil]
  rw [hr, cfs_over e ho (by rw [List.length_append]; simp; omega), List.take_left' rfl]
  congr 2
  rw [List.drop_append]
  simp
theorem cf_new {cs xr zs : List A} {L y : List Cf} {x : Cf} {o n : Nat} (e : cs = cfs (L ++ y)) (hx : xr = x.row) (ho : o = L.length * 4) (hz : zs = [.int .u8 0, .int .u8 0, .str ByteArray.empty, .int .i64 0]) :
    List.drop 0 (List.take (0 + o) cs) ++ xr ++ repl zs (n * 4) = cfs (L ++ [x] ++ List.replicate n y0) := by
  subst hx hz
  rw [Nat.zero_add, ho, cfs_take e _ (by simp), List.take_left' rfl, List.drop_zero, cfs_zeros, cfs_append, cfs_append]
  congr 2
  rw [cfs_cons, cfs_nil, List.append_nil]
end Go.Proofs.Ytkggpkgnkppceaa.LK
