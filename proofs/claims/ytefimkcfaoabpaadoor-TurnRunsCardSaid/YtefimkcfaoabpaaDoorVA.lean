import Derived.Test.YtefimkcfaoabpaaDoorTB
namespace Go.Proofs.YtefimkcfaoabpaaDoor.TA
open Go.Eng
set_option maxRecDepth 100000
/-! ### Rows of frames of one session: questions from 3 to 5, answers from 5 to 3. -/
structure Fm where
  an : Bool
  t : Int
  q : Int
  s : ByteArray
def Fm.row (x : Fm) : List A := fc (bif x.an then 5 else 3) (bif x.an then 3 else 5) 3 9 1 x.t x.q x.an x.s
@[irreducible] def fms (L : List Fm) : List A := L.flatMap Fm.row
theorem fms_nil : fms [] = [] := by unfold fms; rfl
theorem fms_cons (x : Fm) (L : List Fm) : fms (x :: L) = x.row ++ fms L := by unfold fms; rfl
theorem fms_append (L M : List Fm) : fms (L ++ M) = fms L ++ fms M := by unfold fms; exact List.flatMap_append
theorem fms_length : ∀ L : List Fm, (fms L).length = L.length * 9
  | [] => by rw [fms_nil]; rfl
  | x :: L => by rw [fms_cons, List.length_append, fms_length L, List.length_cons]; show 9 + _ = _; omega
/-- A row without addresses. -/
def Pl (l : List A) : Prop := (∀ δ : Nat → Nat, l.map (A.ren δ) = l) ∧ ∀ n, l.all (A.okb n) = true
theorem Pl.app {l m : List A} (h : Pl l) (h' : Pl m) : Pl (l ++ m) := ⟨fun δ => by rw [List.map_append, h.1, h'.1], fun n => by rw [List.all_append, h.2, h'.2]; rfl⟩
theorem Pl.row (x : Fm) : Pl x.row := ⟨fun _ => rfl, fun _ => rfl⟩
theorem Pl.fms' : ∀ L : List Fm, Pl (fms L)
  | [] => by rw [fms_nil]; exact ⟨fun _ => rfl, fun _ => rfl⟩
  | x :: L => by rw [fms_cons]; exact Pl.app (Pl.row x) (Pl.fms' L)
theorem Pl.fms {l : List A} {L : List Fm} (h : l = fms L) : Pl l := by subst h; exact Pl.fms' L
theorem ren_pl {l : List A} (h : Pl l) (δ : Nat → Nat) (ty : TypeId) (mk : Bool) : some (Ob.cells l ty mk) = some ((Ob.cells l ty mk).ren δ) := by
  simp only [Ob.ren, h.1 δ]
theorem y'5 {l : List A} {K : List A → Prop} (_ : Pl l) (h : K l) : forceL l K := by rw [forceL_eq]; exact h
theorem y'6 {l : List A} {δ : Nat → Nat} {K : List A → Prop} (e : Pl l) (h : K l) : forceL (l.map (A.ren δ)) K := by
  rw [forceL_eq, e.1]; exact h
theorem fms_split {L : List Fm} {i : Nat} {x : Fm} (h : L[i]? = some x) : fms L = fms (L.take i) ++ (x.row ++ fms (L.drop (i + 1))) := by
  obtain ⟨hi, rfl⟩ := List.getElem?_eq_some_iff.1 h
  rw [← fms_cons, ← fms_append]
  congr 1
  rw [← List.drop_eq_getElem_cons hi, List.take_append_drop]
theorem fms_at {cs : List A} {L : List Fm} (e : cs = fms L) {i o m : Nat} {x : Fm} (h : L[i]? = some x) (ho : o = i * 9) (hm : m = i * 9 + 9) : List.drop o (List.take m cs) = x.row := by
  subst e ho hm
  obtain ⟨hi, _⟩ := List.getElem?_eq_some_iff.1 h
  have hl : (fms (L.take i)).length = i * 9 := by rw [fms_length, List.length_take]; omega
  rw [fms_split h, ← List.append_assoc, List.take_left' (by rw [List.length_append, hl]; rfl), List.drop_left' hl]
theorem storeL_mid (a m b m' : List A) (n : Nat) (hn : n = a.length) (hm : m.length = m'.length) : storeL (a ++ (m ++ b)) n m' = a ++ (m' ++ b) := by
  subst hn
  rw [storeL_row _ _ _ (by simp; omega)]
  rw [List.take_left' rfl, List.append_assoc]
  congr 2
  rw [List.drop_append, List.drop_of_length_le (by omega), List.nil_append, Nat.add_sub_cancel_left, ← hm, List.drop_left' rfl]
theorem fms_put {cs : List A} {L : List Fm} (e : cs = fms L) {i o : Nat} (hi : i < L.length) (x : Fm) (ho : o = i * 9) : storeL cs o x.row = fms (L.set i x) := by
  subst e ho
  have hl : (fms (L.take i)).length = i * 9 := by rw [fms_length, List.length_take]; omega
  have h : L[i]? = some L[i] := List.getElem?_eq_getElem hi
  have h' : (L.set i x)[i]? = some x := by rw [List.getElem?_set, if_pos rfl, if_pos hi]
  rw [fms_split h, storeL_mid (fms (L.take i)) L[i].row (fms (L.drop (i + 1))) x.row (i * 9) hl.symm rfl, fms_split h', List.take_set_of_le (Nat.le_refl i), List.drop_set_of_lt (by omega)]
theorem fms_take {cs : List A} {L : List Fm} (e : cs = fms L) (n : Nat) (hn : n ≤ L.length) : List.take (n * 9) cs = fms (L.take n) := by
  subst e
  have : fms L = fms (L.take n) ++ fms (L.drop n) := by rw [← fms_append, List.take_append_drop]
  rw [this, List.take_left' (by rw [fms_length, List.length_take]; omega)]
theorem fms_drop {cs : List A} {L : List Fm} (e : cs = fms L) (n : Nat) (hn : n ≤ L.length) : List.drop (n * 9) cs = fms (L.drop n) := by
  subst e
  have : fms L = fms (L.take n) ++ fms (L.drop n) := by rw [← fms_append, List.take_append_drop]
  rw [this, List.drop_left' (by rw [fms_length, List.length_take]; omega)]
@[reducible] def z9l : List A := [.int .u8 0, .int .u8 0, .int .u8 0, .int .u16 0, .int .u32 0, .int .u64 0, .int .u32 0, .bool false, .str ByteArray.empty]
/-- Rows at whose end there are whatever cells: n cells, no addresses. -/
def Tl (x : List A) (n : Nat) : Prop := Pl x ∧ x.length = n * 9
theorem repl_pl (z : List A) (hz : Pl z) (n : Nat) (h2 : 2 ≤ z.length) : Pl (repl z n) := by
  have e : repl z n = (List.range n).map fun i => z.getD (i % z.length) .nilp := by
    match z, h2 with
    | a :: b :: l, _ => rfl
  rw [e]
  have hm : ∀ i, z.getD (i % z.length) .nilp ∈ z := fun i => by
    have hi : i % z.length < z.length := Nat.mod_lt _ (by omega)
    rw [List.getD_eq_getElem?_getD, List.getElem?_eq_getElem hi]
    exact List.getElem_mem hi
  refine ⟨fun δ => ?_, fun k => ?_⟩
  · rw [List.map_map]
    refine List.map_congr_left fun i _ => ?_
    have h1 := hz.1 δ
    have : ∀ x ∈ z, A.ren δ x = x := fun x hx => by
      obtain ⟨j, hj, rfl⟩ := List.mem_iff_getElem.1 hx
      have := congrArg (fun l => l[j]?) h1
      simp only [List.getElem?_map, List.getElem?_eq_getElem hj, Option.map_some, Option.some.injEq] at this
      exact this
    exact this _ (hm i)
  · have h1 := List.all_eq_true.1 (hz.2 k)
    rw [List.all_map, List.all_eq_true]
    intro i _
    exact h1 _ (hm i)
theorem repl_len (z : List A) (n : Nat) (h2 : 2 ≤ z.length) : (repl z n).length = n := by
  match z, h2 with
  | a :: b :: l, _ => simp [repl]
theorem whole_of {l : List A} {n : Nat} (h : l.length = n) : List.drop 0 (List.take (0 + n) l) = l := by
  rw [Nat.zero_add, List.drop_zero, List.take_of_length_le (by omega)]
theorem store_all {l m : List A} (h : l.length = m.length) : storeL l 0 m = m := by
  rw [storeL_row _ _ _ (by omega)]
  simp [h]
/-- The row L in a block, and behind it whatever cells without addresses. -/
def In (L : List Fm) (cs : List A) (cap : Nat) : Prop := ∃ x, cs = fms L ++ x ∧ Pl x ∧ x.length + L.length * 9 = cap * 9
theorem In.pl {L : List Fm} {cs : List A} {cap : Nat} (h : In L cs cap) : Pl cs := by
  obtain ⟨x, rfl, hx, _⟩ := h
  exact Pl.app (Pl.fms' L) hx
theorem In.len {L : List Fm} {cs : List A} {cap : Nat} (h : In L cs cap) : cs.length = cap * 9 := by
  obtain ⟨x, rfl, _, hl⟩ := h
  rw [List.length_append, fms_length]; omega
theorem In.le {L : List Fm} {cs : List A} {cap : Nat} (h : In L cs cap) : L.length ≤ cap := by
  obtain ⟨x, rfl, _, hl⟩ := h
  omega
theorem In.nil : In [] [] 0 := ⟨[], by rw [fms_nil]; rfl, ⟨fun _ => rfl, fun _ => rfl⟩, rfl⟩
theorem In.row {L : List Fm} {cs : List A} {cap : Nat} (h : In L cs cap) {i o m : Nat} {x : Fm} (hx : L[i]? = some x) (ho : o = i * 9) (hm : m = i * 9 + 9) : List.drop o (List.take m cs) = x.row := by
  obtain ⟨y, rfl, _, _⟩ := h
  obtain ⟨hi, _⟩ := List.getElem?_eq_some_iff.1 hx
  rw [List.take_append_of_le_length (by rw [fms_length]; omega)]
  exact fms_at rfl hx ho hm
/-- A part of the row. -/
theorem In.part {L : List Fm} {cs : List A} {cap : Nat} (h : In L cs cap) {i n o m : Nat} (hn : i + n ≤ L.length) (ho : o = i * 9) (hm : m = (i + n) * 9) : List.drop o (List.take m cs) = fms ((L.drop i).take n) := by
  obtain ⟨y, rfl, _, _⟩ := h
  subst ho hm
  rw [List.take_append_of_le_length (by rw [fms_length]; omega), fms_take rfl _ hn, fms_drop rfl i (by rw [List.length_take]; omega), List.drop_take, Nat.add_sub_cancel_left]
theorem In.store {L : List Fm} {cs : List A} {cap : Nat} (h : In L cs cap) {M : List Fm} {o : Nat} (ho : o = L.length * 9) (hc : L.length + M.length ≤ cap) : In (L ++ M) (storeL cs o (fms M)) cap := by
  have hl := h.len
  obtain ⟨y, rfl, hy, hyl⟩ := h
  subst ho
  refine ⟨y.drop (M.length * 9), ?_, ⟨fun δ => ?_, fun n => ?_⟩, ?_⟩
  · rw [storeL_row _ _ _ (by rw [fms_length, List.length_append, fms_length]; omega), List.take_left' (fms_length L), fms_length, fms_append, List.drop_append, fms_length, List.drop_of_length_le (by rw [fms_length]; omega), List.nil_append]
    congr 2; omega
  · rw [List.map_drop, hy.1]
  · exact List.all_eq_true.2 fun x hx => List.all_eq_true.1 (hy.2 n) x (List.mem_of_mem_drop hx)
  · rw [List.length_drop, List.length_append]; omega
theorem In.new {L : List Fm} {cs : List A} {cap : Nat} (h : In L cs cap) {M : List Fm} {o c : Nat} {z : List A} (ho : o = L.length * 9) (hz : z = z9l) (hc : L.length + M.length ≤ c) :
    In (L ++ M) (List.drop 0 (List.take (0 + o) cs) ++ fms M ++ repl z ((c - (L.length + M.length)) * 9)) c := by
  have hzp : Pl z := by rw [hz]; exact ⟨fun _ => rfl, fun _ => rfl⟩
  have hz2 : 2 ≤ z.length := by rw [hz]; decide
  have := h.part (i := 0) (n := L.length) (o := 0) (m := 0 + o) (by omega) (by omega) (by omega)
  rw [this, List.drop_zero, List.take_length]
  exact ⟨_, by rw [fms_append], repl_pl z hzp _ hz2, by rw [repl_len _ _ hz2, List.length_append]; omega⟩
theorem In.fresh {M : List Fm} {c : Nat} {z : List A} (hz : z = z9l) (hc : M.length ≤ c) : In M (fms M ++ repl z ((c - M.length) * 9)) c := by
  have hzp : Pl z := by rw [hz]; exact ⟨fun _ => rfl, fun _ => rfl⟩
  have hz2 : 2 ≤ z.length := by rw [hz]; decide
  exact ⟨_, rfl, repl_pl z hzp _ hz2, by rw [repl_len _ _ hz2]; omega⟩
theorem fms_one {xr : List A} {x : Fm} (h : xr = x.row) : xr = fms [x] := by rw [h, fms_cons, fms_nil, List.append_nil]
end Go.Proofs.YtefimkcfaoabpaaDoor.TA
