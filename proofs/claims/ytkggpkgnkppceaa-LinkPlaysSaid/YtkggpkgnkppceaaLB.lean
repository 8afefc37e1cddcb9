import Derived.Test.YtkggpkgnkppceaaEngH
import Derived.Test.YtkggpkgnkppceaaProg
namespace Go.Proofs.Ytkggpkgnkppceaa.LK
open Go.Eng
set_option maxRecDepth 100000
/-! ### Rows of flights. -/
structure Fl where
  f : UInt8
  t : UInt8
  s : ByteArray
def Fl.row (x : Fl) : List A := [.int .u8 x.f.toNat, .int .u8 x.t.toNat, .str x.s]
@[irreducible] def fls (L : List Fl) : List A := L.flatMap Fl.row
theorem fls_nil : fls [] = [] := by unfold fls; rfl
theorem fls_cons (x : Fl) (L : List Fl) : fls (x :: L) = x.row ++ fls L := by unfold fls; rfl
theorem fls_append (L M : List Fl) : fls (L ++ M) = fls L ++ fls M := by unfold fls; exact List.flatMap_append
theorem fls_length : ∀ L : List Fl, (fls L).length = L.length * 3
  | [] => by rw [fls_nil]; rfl
  | x :: L => by rw [fls_cons, List.length_append, fls_length L, List.length_cons]; show 3 + _ = _; omega
/-- A row without addresses. -/
def Pl (l : List A) : Prop := (∀ δ : Nat → Nat, l.map (A.ren δ) = l) ∧ ∀ n, l.all (A.okb n) = true
theorem Pl.app {l m : List A} (h : Pl l) (h' : Pl m) : Pl (l ++ m) := ⟨fun δ => by rw [List.map_append, h.1, h'.1], fun n => by rw [List.all_append, h.2, h'.2]; rfl⟩
theorem Pl.fls' : ∀ L : List Fl, Pl (fls L)
  | [] => by rw [fls_nil]; exact ⟨fun _ => rfl, fun _ => rfl⟩
  | x :: L => by rw [fls_cons]; exact Pl.app ⟨fun _ => rfl, fun _ => rfl⟩ (Pl.fls' L)
theorem Pl.fls {l : List A} {L : List Fl} (h : l = fls L) : Pl l := by subst h; exact Pl.fls' L
theorem ren_pl {l : List A} (h : Pl l) (δ : Nat → Nat) (ty : TypeId) (mk : Bool) : some (Ob.cells l ty mk) = some ((Ob.cells l ty mk).ren δ) := by
  simp only [Ob.ren, h.1 δ]
theorem forceL_pl {l : List A} {K : List A → Prop} (_ : Pl l) (h : K l) : forceL l K := by rw [forceL_eq]; exact h
theorem forceL_rpl {l : List A} {δ : Nat → Nat} {K : List A → Prop} (e : Pl l) (h : K l) : forceL (l.map (A.ren δ)) K := by
  rw [forceL_eq, e.1]; exact h
theorem fls_split {L : List Fl} {i : Nat} {x : Fl} (h : L[i]? = some x) : fls L = fls (L.take i) ++ (x.row ++ fls (L.drop (i + 1))) := by
  obtain ⟨hi, rfl⟩ := List.getElem?_eq_some_iff.1 h
  rw [← fls_cons, ← fls_append]
  congr 1
  rw [← List.drop_eq_getElem_cons hi, List.take_append_drop]
theorem fls_at {cs : List A} {L : List Fl} (e : cs = fls L) {i o m : Nat} {x : Fl} (h : L[i]? = some x) (ho : o = i * 3) (hm : m = i * 3 + 3) : List.drop o (List.take m cs) = x.row := by
  subst e ho hm
  obtain ⟨hi, _⟩ := List.getElem?_eq_some_iff.1 h
  have hl : (fls (L.take i)).length = i * 3 := by rw [fls_length, List.length_take]; omega
  rw [fls_split h, ← List.append_assoc, List.take_left' (by rw [List.length_append, hl]; rfl), List.drop_left' hl]
theorem storeL_mid (a m b m' : List A) (n : Nat) (hn : n = a.length) (hm : m.length = m'.length) : storeL (a ++ (m ++ b)) n m' = a ++ (m' ++ b) := by
  subst hn
  rw [storeL_row _ _ _ (by simp; omega)]
  rw [List.take_left' rfl, List.append_assoc]
  congr 2
  rw [List.drop_append, List.drop_of_length_le (by omega), List.nil_append, Nat.add_sub_cancel_left, ← hm, List.drop_left' rfl]
theorem fls_put {cs : List A} {L : List Fl} (e : cs = fls L) {i o : Nat} (hi : i < L.length) (x : Fl) (ho : o = i * 3) : storeL cs o x.row = fls (L.set i x) := by
  subst e ho
  have hl : (fls (L.take i)).length = i * 3 := by rw [fls_length, List.length_take]; omega
  have h : L[i]? = some L[i] := List.getElem?_eq_getElem hi
  have h' : (L.set i x)[i]? = some x := by rw [List.getElem?_set, if_pos rfl, if_pos hi]
  rw [fls_split h, storeL_mid (fls (L.take i)) L[i].row (fls (L.drop (i + 1))) x.row (i * 3) hl.symm rfl, fls_split h', List.take_set_of_le (Nat.le_refl i), List.drop_set_of_lt (by omega)]
theorem fls_take {cs : List A} {L : List Fl} (e : cs = fls L) (n : Nat) (hn : n ≤ L.length) : List.take (n * 3) cs = fls (L.take n) := by
  subst e
  have : fls L = fls (L.take n) ++ fls (L.drop n) := by rw [← fls_append, List.take_append_drop]
  rw [this, List.take_left' (by rw [fls_length, List.length_take]; omega)]
theorem fls_drop {cs : List A} {L : List Fl} (e : cs = fls L) (n : Nat) (hn : n ≤ L.length) : List.drop (n * 3) cs = fls (L.drop n) := by
  subst e
  have : fls L = fls (L.take n) ++ fls (L.drop n) := by rw [← fls_append, List.take_append_drop]
  rw [this, List.drop_left' (by rw [fls_length, List.length_take]; omega)]
def z0 : Fl := ⟨0, 0, ByteArray.empty⟩
theorem fls_zeros (n : Nat) : repl [.int .u8 0, .int .u8 0, .str ByteArray.empty] (n * 3) = fls (List.replicate n z0) := by
  apply List.ext_getElem?
  intro j
  have hl : (fls (List.replicate n z0)).length = n * 3 := by rw [fls_length, List.length_replicate]
  by_cases hj : j < n * 3
  · have hi : (List.replicate n z0)[j / 3]? = some z0 := by rw [List.getElem?_replicate, if_pos (by omega)]
    have hx := fls_at rfl hi (o := j / 3 * 3) (m := j / 3 * 3 + 3) rfl rfl
    have e : (List.drop (j / 3 * 3) (List.take (j / 3 * 3 + 3) (fls (List.replicate n z0))))[j % 3]? = (fls (List.replicate n z0))[j]? := by
      rw [List.getElem?_drop, List.getElem?_take, if_pos (by omega), show j / 3 * 3 + j % 3 = j by omega]
    rw [← e, hx]
    have hr : j % 3 = 0 ∨ j % 3 = 1 ∨ j % 3 = 2 := by omega
    simp only [repl, List.getElem?_map, List.getElem?_range hj, Option.map_some, List.length_cons, List.length_nil]
    rcases hr with h | h | h <;> rw [h] <;> rfl
  · rw [List.getElem?_eq_none (by simp only [repl, List.length_map, List.length_range]; omega), List.getElem?_eq_none (by rw [hl]; omega)]
theorem s61 : Try.prog.types[61].size = 3 := rfl
theorem b61 : Try.prog.types[61].bytes = 24 := rfl
theorem s57 : Try.prog.types[57].size = 2 := rfl
section
variable {ro : Addr → A → Prop}
set_option maxHeartbeats 400000 in
theorem replica23 (n : UInt8) {K : V → Hp → Prop} (hK : ∀ b : Bool, b = decide (1 ≤ n.toNat ∧ n.toNat ≤ 5) → K (.a (.bool b)) []) : Go.Eng.Fn Try.prog ro 23 [.a (.int .u8 (n.toNat : Int))] [] K := by
  refine Go.Eng.Fn.weak ?_
  refine Go.Eng.Fn.of_code (gOf []) Try.func23 rfl (Nat.le_of_ble_eq_true rfl) ?_
  conv => whnf
  by_cases h1 : (n.toNat : Int) ≥ 1
  · have c1 : decide ((n.toNat : Int) ≥ 1) = true := decide_eq_true h1
    repeat' (first
      | ((with_reducible refine regx_of ?_ ?_); (· decide +kernel); conv => whnf)
      | ((with_reducible refine growx_pre ?_ ?_); (· exact ⟨_, rfl⟩); conv => whnf)
      | ((with_reducible refine needm_of ?_ ?_); (· first | assumption | exact decide_eq_true (by omega) | exact mkOK_of (by decide) | decide +kernel | (refine decide_eq_true ?_; simp (disch := omega) only [i64w]; omega)); conv => whnf)
      | ((with_reducible refine condm_pos ?_ ?_); (· assumption); conv => whnf)
      | ((with_reducible refine condm_neg ?_ ?_); (· assumption); conv => whnf)
      | ((with_reducible refine forceL_fv (by assumption) ?_); conv => whnf)
      | ((with_reducible refine forceL_rfv (by assumption) ?_); conv => whnf)
      | ((with_reducible refine forceNm_of ?_); conv => whnf)
      | ((with_reducible refine needm_of (fv_lenL (by assumption) (by assumption)) ?_); conv => whnf)
      | ((with_reducible refine optm_var (fv_strL (by assumption) (by assumption)) (fun s hs => ?_)); conv => whnf)
      | ((with_reducible refine forceA_of ?_); conv => whnf)
      | fail)
    exact keepOf (v₀ := .a (.bool (decide ((n.toNat : Int) ≤ 5)))) [] [] rfl trivial rfl (hK _ (decide_eq_decide.2 (by omega)))
  · have c1 : decide ((n.toNat : Int) ≥ 1) = false := decide_eq_false h1
    repeat' (first
      | ((with_reducible refine regx_of ?_ ?_); (· decide +kernel); conv => whnf)
      | ((with_reducible refine growx_pre ?_ ?_); (· exact ⟨_, rfl⟩); conv => whnf)
      | ((with_reducible refine needm_of ?_ ?_); (· first | assumption | exact decide_eq_true (by omega) | exact mkOK_of (by decide) | decide +kernel | (refine decide_eq_true ?_; simp (disch := omega) only [i64w]; omega)); conv => whnf)
      | ((with_reducible refine condm_pos ?_ ?_); (· assumption); conv => whnf)
      | ((with_reducible refine condm_neg ?_ ?_); (· assumption); conv => whnf)
      | ((with_reducible refine forceL_fv (by assumption) ?_); conv => whnf)
      | ((with_reducible refine forceL_rfv (by assumption) ?_); conv => whnf)
      | ((with_reducible refine forceNm_of ?_); conv => whnf)
      | ((with_reducible refine needm_of (fv_lenL (by assumption) (by assumption)) ?_); conv => whnf)
      | ((with_reducible refine optm_var (fv_strL (by assumption) (by assumption)) (fun s hs => ?_)); conv => whnf)
      | ((with_reducible refine forceA_of ?_); conv => whnf)
      | fail)
    exact keepOf (v₀ := .a (.bool false)) [] [] rfl trivial rfl (hK _ (decide_eq_false (by omega)).symm)
set_option maxHeartbeats 400000 in
theorem new8 (room : Nat) (h1 : 1 ≤ room) (h2 : room ≤ 1024) {K : V → Hp → Prop} (hK : K (.t [.a (.ptr 0 0), .a (.int .i64 0)]) [.cells [.int .i64 room, .nils] 57 false]) : Go.Eng.Fn Try.prog ro 8 [.a (.int .i64 (room : Int))] [] K := by
  have c1 : decide ((room : Int) < 1) = false := decide_eq_false (by omega)
  have c2 : decide ((room : Int) > 1024) = false := decide_eq_false (by omega)
  refine Go.Eng.Fn.weak ?_
  refine Go.Eng.Fn.of_code (gOf []) Try.func8 rfl (Nat.le_of_ble_eq_true rfl) ?_
  conv => whnf
  repeat' (first
    | ((with_reducible refine regx_of ?_ ?_); (· decide +kernel); conv => whnf)
    | ((with_reducible refine growx_pre ?_ ?_); (· exact ⟨_, rfl⟩); conv => whnf)
    | ((with_reducible refine needm_of ?_ ?_); (· first | assumption | exact decide_eq_true (by omega) | exact mkOK_of (by decide) | decide +kernel | (refine decide_eq_true ?_; simp (disch := omega) only [i64w]; omega)); conv => whnf)
    | ((with_reducible refine condm_pos ?_ ?_); (· assumption); conv => whnf)
    | ((with_reducible refine condm_neg ?_ ?_); (· assumption); conv => whnf)
    | ((with_reducible refine forceL_fv (by assumption) ?_); conv => whnf)
    | ((with_reducible refine forceL_rfv (by assumption) ?_); conv => whnf)
    | ((with_reducible refine forceNm_of ?_); conv => whnf)
    | ((with_reducible refine needm_of (fv_lenL (by assumption) (by assumption)) ?_); conv => whnf)
    | ((with_reducible refine optm_var (fv_strL (by assumption) (by assumption)) (fun s hs => ?_)); conv => whnf)
    | ((with_reducible refine forceA_of ?_); conv => whnf)
    | fail)
  exact keepOf (v₀ := .t [.a (.ptr 0 0), .a (.int .i64 0)]) [.cells [.int .i64 room, .nils] 57 false] [0] rfl ⟨rfl, trivial⟩ rfl hK
end
end Go.Proofs.Ytkggpkgnkppceaa.LK
