import Derived.Test.YtmnimmhpclhmfaaPE
namespace Go.Proofs.Ytmnimmhpclhmfaa.PC
open Go.Eng
set_option maxRecDepth 100000
/-! ### The order of keys. -/
def keyLess (x y : Option Int) : Bool := match x, y with
  | none, some _ => true
  | some a, some b => decide (a < b)
  | _, none => false
theorem less_key (a b : Nat) : less a b = keyLess (fkey a) (fkey b) := by
  unfold less
  rw [fkey_nan, fkey_nan, fLt_key]
  cases fkey a <;> cases fkey b <;> simp [keyLess]
theorem kl_irrefl (x : Option Int) : keyLess x x = false := by cases x <;> simp [keyLess]
theorem kl_trans {x y z : Option Int} (h : keyLess x y = true) (h' : keyLess y z = true) : keyLess x z = true := by
  cases x <;> cases y <;> cases z <;> simp [keyLess] at * <;> omega
theorem kl_le_lt {x y z : Option Int} (h : keyLess y x = false) (h' : keyLess y z = true) : keyLess x z = true := by
  cases x <;> cases y <;> cases z <;> simp [keyLess] at * <;> omega
theorem kl_lt_le {x y z : Option Int} (h : keyLess x y = true) (h' : keyLess z y = false) : keyLess x z = true := by
  cases x <;> cases y <;> cases z <;> simp [keyLess] at * <;> omega
theorem kl_le_trans {x y z : Option Int} (h : keyLess y x = false) (h' : keyLess z y = false) : keyLess z x = false := by
  cases x <;> cases y <;> cases z <;> simp [keyLess] at * <;> omega
theorem kl_asymm {x y : Option Int} (h : keyLess x y = true) : keyLess y x = false := by
  cases x <;> cases y <;> simp [keyLess] at * <;> omega
theorem kl_eq {x y : Option Int} (h : keyLess x y = false) (h' : keyLess y x = false) : x = y := by
  cases x <;> cases y <;> simp [keyLess] at * <;> omega
/-- Who is to be asked ahead of whom. -/
def before (f : Int → Option Int) (a b : Int) : Prop := keyLess (f b) (f a) = true ∨ (f a = f b ∧ a < b)
/-- The first of the greatest. -/
def Best (f : Int → Option Int) (L : List Int) (k : Nat) : Prop := ∃ x, L[k]? = some x ∧ (∀ (j : Nat) (y : Int), j < k → L[j]? = some y → keyLess (f y) (f x) = true) ∧ ∀ (j : Nat) (y : Int), L[j]? = some y → keyLess (f x) (f y) = false
theorem best_before {f : Int → Option Int} {L : List Int} {k : Nat} {x : Int} (h : Best f L k) (hx : L[k]? = some x) (hs : L.Pairwise (· < ·)) : ∀ y ∈ L.eraseIdx k, before f x y := by
  obtain ⟨x', hx', h1, h2⟩ := h
  rw [hx] at hx'; injection hx' with hx'; subst hx'
  intro y hy
  obtain ⟨j, hj⟩ := List.getElem?_of_mem hy
  rw [List.getElem?_eraseIdx] at hj
  obtain ⟨hk, ek⟩ := List.getElem?_eq_some_iff.1 hx
  split at hj
  · rename_i hlt
    exact .inl (h1 j y hlt hj)
  · rename_i hge
    obtain ⟨hj', ej⟩ := List.getElem?_eq_some_iff.1 hj
    have hlt : x < y := by
      have := List.pairwise_iff_getElem.1 hs k (j + 1) hk hj' (by omega)
      rw [ek, ej] at this
      exact this
    cases hc : keyLess (f y) (f x) with
    | true => exact .inl hc
    | false => exact .inr ⟨kl_eq (h2 _ y hj) hc, hlt⟩
theorem perm_erase {L : List Int} {k : Nat} {x : Int} (h : L[k]? = some x) : L.Perm (x :: L.eraseIdx k) := by
  obtain ⟨hk, rfl⟩ := List.getElem?_eq_some_iff.1 h
  have e : L = L.take k ++ (L[k] :: L.drop (k + 1)) := by rw [← List.drop_eq_getElem_cons hk, List.take_append_drop]
  rw [List.eraseIdx_eq_take_drop_succ]
  generalize L[k] = x at *
  conv => lhs; rw [e]
  exact List.perm_middle
/-! ### Rows of whole numbers. -/
@[irreducible] def i64s (L : List Int) : List A := L.map (A.int .i64)
theorem i64s_length (L : List Int) : (i64s L).length = L.length := by unfold i64s; simp
theorem Pl.i64 {l : List A} {L : List Int} (e : l = i64s L) : Pl l := by
  subst e
  unfold i64s
  exact ⟨fun δ => by rw [List.map_map]; rfl, fun n => by simp [A.okb]⟩
theorem i64s_get {l : List A} {L : List Int} {i : Nat} {x : Int} (e : l = i64s L) (h : L[i]? = some x) : l[i]? = some (.int .i64 x) := by
  subst e; unfold i64s; rw [List.getElem?_map, h]; rfl
theorem i64s_take (L : List Int) (n : Nat) : (i64s L).take n = i64s (L.take n) := by unfold i64s; rw [List.map_take]
theorem i64s_drop (L : List Int) (n : Nat) : (i64s L).drop n = i64s (L.drop n) := by unfold i64s; rw [List.map_drop]
theorem i64s_append (L M : List Int) : i64s (L ++ M) = i64s L ++ i64s M := by unfold i64s; rw [List.map_append]
theorem i64s_over {l : List A} {L M : List Int} {n : Nat} (e : l = i64s L) (h : n + M.length ≤ L.length) : storeL l n (i64s M) = i64s (L.take n ++ M ++ L.drop (n + M.length)) := by
  subst e
  rw [storeL_row _ _ _ (by rw [i64s_length, i64s_length]; exact h), i64s_length, i64s_take, i64s_drop, ← i64s_append, ← i64s_append]
theorem i64s_one (x : Int) : [A.int .i64 x] = i64s [x] := by unfold i64s; rfl
theorem i64s_zeros (n : Nat) : repl [.int .i64 0] n = i64s (List.replicate n 0) := by unfold i64s; simp [repl]
theorem i64s_in {cs : List A} {L y : List Int} {x : Int} {n : Nat} (e : cs = i64s (L ++ y)) (hn : n = L.length) (hy : 0 < y.length) : storeL cs n [.int .i64 x] = i64s (L ++ [x] ++ y.tail) := by
  subst hn
  rw [i64s_one, i64s_over e (by simp; omega), List.take_left' rfl]
  congr 2
  rw [List.drop_append]
  simp
theorem i64s_new {cs : List A} {L y : List Int} {x : Int} {o n : Nat} (e : cs = i64s (L ++ y)) (ho : o = L.length) :
    List.drop 0 (List.take (0 + o) cs) ++ [.int .i64 x] ++ repl [.int .i64 0] n = i64s (L ++ [x] ++ List.replicate n 0) := by
  subst ho
  rw [Nat.zero_add, List.drop_zero, e, i64s_take, List.take_left' rfl, i64s_one, i64s_zeros, ← i64s_append, ← i64s_append]
end Go.Proofs.Ytmnimmhpclhmfaa.PC
