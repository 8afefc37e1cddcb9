import Derived.Test.YtmnimmhpclhmfaaPN
import Derived.Test.YtmnimmhpclhmfaaPT
namespace Go.Proofs.Ytmnimmhpclhmfaa.PC
open Go.Eng
set_option maxRecDepth 100000
/-! ### Rows of partners. -/
structure Pt where
  heard : Bool
  ended : Bool
  mean : Nat
  stray : Nat
  dbl : Int
  whn : Nat
  share : Nat
def Pt.row (p : Pt) : List A := [.bool p.heard, .bool p.ended, .flt .f64 p.mean, .flt .f64 p.stray, .int .i64 p.dbl, .flt .f64 p.whn, .flt .f64 p.share]
@[irreducible] def prow (L : List Pt) : List A := L.flatMap Pt.row
theorem prow_nil : prow [] = [] := by unfold prow; rfl
theorem prow_cons (x : Pt) (L : List Pt) : prow (x :: L) = x.row ++ prow L := by unfold prow; rfl
theorem prow_append (L M : List Pt) : prow (L ++ M) = prow L ++ prow M := by unfold prow; exact List.flatMap_append
theorem prow_length : ∀ L : List Pt, (prow L).length = L.length * 7
  | [] => by rw [prow_nil]; rfl
  | x :: L => by rw [prow_cons, List.length_append, prow_length L, List.length_cons]; show 7 + _ = _; omega
/-- A row without addresses. -/
def Pl (l : List A) : Prop := (∀ δ : Nat → Nat, l.map (A.ren δ) = l) ∧ ∀ n, l.all (A.okb n) = true
theorem Pl.app {l m : List A} (h : Pl l) (h' : Pl m) : Pl (l ++ m) := ⟨fun δ => by rw [List.map_append, h.1, h'.1], fun n => by rw [List.all_append, h.2, h'.2]; rfl⟩
theorem Pl.prow' : ∀ L : List Pt, Pl (prow L)
  | [] => by rw [prow_nil]; exact ⟨fun _ => rfl, fun _ => rfl⟩
  | x :: L => by rw [prow_cons]; exact Pl.app ⟨fun _ => rfl, fun _ => rfl⟩ (Pl.prow' L)
theorem Pl.prow {l : List A} {L : List Pt} (h : l = prow L) : Pl l := by subst h; exact Pl.prow' L
theorem ren_pl {l : List A} (h : Pl l) (δ : Nat → Nat) (ty : TypeId) (mk : Bool) : some (Ob.cells l ty mk) = some ((Ob.cells l ty mk).ren δ) := by
  simp only [Ob.ren, h.1 δ]
theorem forceL_pl {l : List A} {K : List A → Prop} (_ : Pl l) (h : K l) : forceL l K := by rw [forceL_eq]; exact h
theorem forceL_rpl {l : List A} {δ : Nat → Nat} {K : List A → Prop} (e : Pl l) (h : K l) : forceL (l.map (A.ren δ)) K := by
  rw [forceL_eq, e.1]; exact h
theorem prow_split {L : List Pt} {i : Nat} {x : Pt} (h : L[i]? = some x) : prow L = prow (L.take i) ++ (x.row ++ prow (L.drop (i + 1))) := by
  obtain ⟨hi, rfl⟩ := List.getElem?_eq_some_iff.1 h
  rw [← prow_cons, ← prow_append]
  congr 1
  rw [← List.drop_eq_getElem_cons hi, List.take_append_drop]
theorem prow_get {cs : List A} {L : List Pt} (e : cs = prow L) {i o k : Nat} {x : Pt} {y : A} (h : L[i]? = some x) (ho : o = i * 7 + k) (hk : x.row[k]? = some y) : cs[o]? = some y := by
  subst e ho
  obtain ⟨hi, _⟩ := List.getElem?_eq_some_iff.1 h
  have hl : (prow (L.take i)).length = i * 7 := by rw [prow_length, List.length_take]; omega
  have hk7 : k < x.row.length := (List.getElem?_eq_some_iff.1 hk).1
  rw [prow_split h, List.getElem?_append_right (by omega), hl, Nat.add_sub_cancel_left, List.getElem?_append_left hk7]
  exact hk
theorem storeL_mid (a m b m' : List A) (n : Nat) (hn : n = a.length) (hm : m.length = m'.length) : storeL (a ++ (m ++ b)) n m' = a ++ (m' ++ b) := by
  subst hn
  rw [storeL_row _ _ _ (by simp; omega)]
  rw [List.take_left' rfl, List.append_assoc]
  congr 2
  rw [List.drop_append, List.drop_of_length_le (by omega), List.nil_append, Nat.add_sub_cancel_left, ← hm, List.drop_left' rfl]
theorem prow_set {cs : List A} {L : List Pt} (e : cs = prow L) {i o k : Nat} {x x' : Pt} {y : A} (h : L[i]? = some x) (ho : o = i * 7 + k) (hk : k < 7) (hx : x'.row = x.row.set k y) : storeL cs o [y] = prow (L.set i x') := by
  subst e ho
  obtain ⟨hi, _⟩ := List.getElem?_eq_some_iff.1 h
  have hl : (prow (L.take i)).length = i * 7 := by rw [prow_length, List.length_take]; omega
  have h' : (L.set i x')[i]? = some x' := by rw [List.getElem?_set, if_pos rfl, if_pos hi]
  have hr : x.row.length = 7 := rfl
  have e1 : x.row = x.row.take k ++ ([x.row[k]'(by omega)] ++ x.row.drop (k + 1)) := by
    rw [List.singleton_append, ← List.drop_eq_getElem_cons (by omega), List.take_append_drop]
  have e2 : x'.row = x.row.take k ++ ([y] ++ x.row.drop (k + 1)) := by
    rw [hx, List.set_eq_take_append_cons_drop, if_pos (by omega)]; rfl
  have tk : (x.row.take k).length = k := by rw [List.length_take]; omega
  rw [prow_split h, prow_split h', List.take_set_of_le (Nat.le_refl i), List.drop_set_of_lt (by omega), e2]
  have e3 : ∀ (P B : List A), P ++ (x.row ++ B) = (P ++ x.row.take k) ++ ([x.row[k]'(by omega)] ++ (x.row.drop (k + 1) ++ B)) := fun P B => by
    have e4 : x.row ++ B = (x.row.take k ++ ([x.row[k]'(by omega)] ++ x.row.drop (k + 1))) ++ B := congrArg (· ++ B) e1
    rw [e4]
    simp only [List.append_assoc]
  rw [e3, storeL_mid (prow (L.take i) ++ x.row.take k) [x.row[k]'(by omega)] (x.row.drop (k + 1) ++ prow (L.drop (i + 1))) [y] (i * 7 + k) (by rw [List.length_append, hl, tk]) rfl]
  simp only [List.append_assoc]
def p0 : Pt := ⟨false, false, 0, 0, 0, 0, 0⟩
theorem prow_zeros (n : Nat) : repl [.bool false, .bool false, .flt .f64 0, .flt .f64 0, .int .i64 0, .flt .f64 0, .flt .f64 0] (n * 7) = prow (List.replicate n p0) := by
  apply List.ext_getElem?
  intro j
  have hl : (prow (List.replicate n p0)).length = n * 7 := by rw [prow_length, List.length_replicate]
  by_cases hj : j < n * 7
  · have hi : (List.replicate n p0)[j / 7]? = some p0 := by rw [List.getElem?_replicate, if_pos (by omega)]
    have hr : j % 7 = 0 ∨ j % 7 = 1 ∨ j % 7 = 2 ∨ j % 7 = 3 ∨ j % 7 = 4 ∨ j % 7 = 5 ∨ j % 7 = 6 := by omega
    simp only [repl, List.getElem?_map, List.getElem?_range hj, Option.map_some, List.length_cons, List.length_nil]
    symm
    rcases hr with h | h | h | h | h | h | h <;> rw [h] <;> exact prow_get rfl hi (show j = j / 7 * 7 + j % 7 by omega) (by rw [h]; rfl)
  · rw [List.getElem?_eq_none (by simp only [repl, List.length_map, List.length_range]; omega), List.getElem?_eq_none (by rw [hl]; omega)]
theorem s73 : Try.prog.types[73].size = 7 := rfl
theorem b73 : Try.prog.types[73].bytes = 48 := rfl
end Go.Proofs.Ytmnimmhpclhmfaa.PC
