import Derived.Test.YtimddbgnaeeggaaDoorRH
namespace Go.Proofs.YtimddbgnaeeggaaDoor.KD
open Go.Eng
set_option maxRecDepth 100000
theorem whole_of {l : List A} {n : Nat} (h : l.length = n) : List.drop 0 (List.take (0 + n) l) = l := by
  rw [Nat.zero_add, List.drop_zero, List.take_of_length_le (by omega)]
theorem cnt_who (E : List Cn) (r : Nat) : (cnt E r).who = r := by
  induction E with
  | nil => rfl
  | cons e E ih =>
    show (if e.who = r then e else cnt E r).who = r
    split
    · assumption
    · exact ih
theorem cnt_lt {E : List Cn} {r : Nat} (hE : ∀ e ∈ E, e.who < 256 ∧ e.up < 65536 ∧ e.down < 65536) : (cnt E r).up < 65536 ∧ (cnt E r).down < 65536 := by
  induction E with
  | nil => exact ⟨(by decide : 0 < 65536), (by decide : 0 < 65536)⟩
  | cons e E ih =>
    show (if e.who = r then e else cnt E r).up < 65536 ∧ (if e.who = r then e else cnt E r).down < 65536
    split
    · exact (hE e List.mem_cons_self).2
    · exact ih (fun x hx => hE x (List.mem_cons_of_mem _ hx))
/-- What a step makes of a replica's part. -/
def stepD (E : List Cn) (r : Nat) (b : Int) : Cn := if b > 0 then ⟨r, (cnt E r).up + b.toNat, (cnt E r).down⟩ else ⟨r, (cnt E r).up, (cnt E r).down + (-b).toNat⟩
def dOf (E : List Cn) (d : Cn) (q : Nat) : Cn := if q = d.who then d else cnt E q
def stE (E : List Cn) (d : Cn) : Nat → List Cn
  | 0 => []
  | i + 1 => stE E d i ++ (if (dOf E d (i + 1)).up = 0 ∧ (dOf E d (i + 1)).down = 0 then [] else [dOf E d (i + 1)])
theorem stE_len (E : List Cn) (d : Cn) (i : Nat) : (stE E d i).length ≤ i := by
  induction i with
  | zero => exact Nat.le_refl 0
  | succ i ih =>
    show (stE E d i ++ _).length ≤ _
    rw [List.length_append]
    split
    · simp; omega
    · simp; omega
theorem dOf_lt {E : List Cn} {d : Cn} (hE : ∀ e ∈ E, e.who < 256 ∧ e.up < 65536 ∧ e.down < 65536) (hd : d.up < 65536 ∧ d.down < 65536) (q : Nat) : (dOf E d q).who = q ∧ (dOf E d q).up < 65536 ∧ (dOf E d q).down < 65536 := by
  unfold dOf
  split
  · rename_i h; exact ⟨h.symm, hd⟩
  · exact ⟨cnt_who E q, cnt_lt hE⟩
theorem stE_lt {E : List Cn} {d : Cn} (hE : ∀ e ∈ E, e.who < 256 ∧ e.up < 65536 ∧ e.down < 65536) (hd : d.up < 65536 ∧ d.down < 65536) (i : Nat) (hi : i < 256) : ∀ e ∈ stE E d i, e.who < 256 ∧ e.up < 65536 ∧ e.down < 65536 := by
  induction i with
  | zero => exact fun e h => absurd h List.not_mem_nil
  | succ i ih =>
    intro e he
    rcases List.mem_append.1 he with he | he
    · exact ih (by omega) e he
    · split at he
      · exact absurd he List.not_mem_nil
      · obtain ⟨h1, h2, h3⟩ := dOf_lt hE hd (i + 1)
        rw [List.mem_singleton.1 he]
        exact ⟨by omega, h2, h3⟩
section
variable {ro : Addr → A → Prop}
set_option maxHeartbeats 1000000 in
/-- Apart of a text of head 3: a row that may lie nowhere. -/
theorem apart3g (T : List UInt8) (hT : T.length ≤ 39) {K : V → Hp → Prop}
    (hK0 : apC T = false → K (.g [.int .u8 0, .bool false, .nils, .nils, .nils]) [])
    (hK1 : ∀ rs X n cap mk, apC T = true → rs = cts (pe T ++ X) → n = (pe T).length → cap = n + X.length → K (.g [.int .u8 3, .bool false, .nils, .slc 0 0 n cap, .nils]) [.cells rs 104 mk]) :
    Go.Eng.Fn Tryd.prog ro 32 [.a (.str (bs (3 :: T)))] [] K := by
  refine Fn.ghost ?_
  refine apart3 T hT (fun h => ?_) (fun h hTn => ?_) (fun rs X n cap mk h hrs hn hcap => ?_)
  · exact ⟨0, .g [.int .u8 0, .bool false, .nils, .nils, .nils], [], rfl, rfl, trivial, rfl, hK0 h⟩
  · have e3 : pe [] = [] := by rw [pe]; intros; contradiction
    exact ⟨0, .g [.int .u8 3, .bool false, .nils, .slc 0 0 0 0, .nils], [.cells [] 104 false], rfl, rfl, ⟨rfl, trivial⟩, rfl, hK1 [] [] 0 0 false h (by rw [hTn, e3, List.append_nil, cts_nil]) (by rw [hTn, e3]; rfl) rfl⟩
  · have hp := cts_pl hrs
    exact ⟨1, .g [.int .u8 3, .bool false, .nils, .slc 0 0 n cap, .nils], [.cells rs 104 mk], rfl, rfl, ⟨ung_pl hp.1 _ _ _, trivial⟩, (by simp [frmOk, V.okb, A.okb, Ob.okb, hp.2] <;> decide), hK1 rs X n cap mk h hrs hn hcap⟩
end
end Go.Proofs.YtimddbgnaeeggaaDoor.KD
