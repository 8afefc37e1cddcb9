import Derived.Test.YtimddbgnaeeggaaDoorUD
import Derived.Test.YtimddbgnaeeggaaDoorKJ
import Derived.Test.YtimddbgnaeeggaaDoorKN
import Derived.Test.YtimddbgnaeeggaaDoorKP
import Derived.Test.YtimddbgnaeeggaaDoorUK
import Derived.Test.YtimddbgnaeeggaaDoorRZ
import Derived.Test.YtimddbgnaeeggaaDoorRE
import Derived.Test.YtimddbgnaeeggaaDoorRH
import Derived.Test.YtimddbgnaeeggaaDoorRS
import Derived.Test.YtimddbgnaeeggaaDoorUA
import Derived.Test.YtimddbgnaeeggaaDoorRows
import Derived.Lib.LaidIn
import Derived.Lib.LaidU8T
import Derived.Test.YtimddbgnaeeggaaDoorRU
import Derived.Test.YtimddbgnaeeggaaDoorRQ
namespace Go.Proofs.YtimddbgnaeeggaaDoor.KD
open Go.Eng
set_option maxRecDepth 100000
/-! ### The join of values, plainly. -/
theorem mg_mem : ∀ (a b : List Nat) (r : Nat), r ∈ mg a b ↔ r ∈ a ∨ r ∈ b
  | [], b, r => by rw [mg_nil]; simp
  | x :: a, [], r => by rw [mg_nil2]; simp
  | x :: a, y :: b, r => by
    rcases Nat.lt_trichotomy x y with h | h | h
    · rw [mg_lt a b h, List.mem_cons, mg_mem a (y :: b) r, List.mem_cons, List.mem_cons]
      constructor
      · rintro (h | h | h | h) <;> simp [h]
      · rintro ((h | h) | h | h) <;> simp [h]
    · subst h
      rw [mg_eq, List.mem_cons, mg_mem a b r, List.mem_cons, List.mem_cons]
      constructor
      · rintro (h | h | h) <;> simp [h]
      · rintro ((h | h) | h | h) <;> simp [h]
    · rw [mg_gt a b h, List.mem_cons, mg_mem (x :: a) b r, List.mem_cons, List.mem_cons]
      constructor
      · rintro (h | (h | h) | h) <;> simp [h]
      · rintro ((h | h) | h | h) <;> simp [h]
termination_by a b => a.length + b.length
theorem mg_rise : ∀ {a b : List Nat}, Rise a → Rise b → Rise (mg a b)
  | [], b, _, hb => by rw [mg_nil]; exact hb
  | x :: a, [], ha, _ => by rw [mg_nil2]; exact ha
  | x :: a, y :: b, ha, hb => by
    have ha' := List.pairwise_cons.1 ha
    have hb' := List.pairwise_cons.1 hb
    rcases Nat.lt_trichotomy x y with h | h | h
    · rw [mg_lt a b h]
      refine List.pairwise_cons.2 ⟨fun r hr => ?_, mg_rise ha'.2 hb⟩
      rcases (mg_mem _ _ _).1 hr with hr | hr
      · exact ha'.1 r hr
      · rcases List.mem_cons.1 hr with rfl | hr
        · exact h
        · have := hb'.1 r hr; omega
    · subst h
      rw [mg_eq]
      refine List.pairwise_cons.2 ⟨fun r hr => ?_, mg_rise ha'.2 hb'.2⟩
      rcases (mg_mem _ _ _).1 hr with hr | hr
      · exact ha'.1 r hr
      · exact hb'.1 r hr
    · rw [mg_gt a b h]
      refine List.pairwise_cons.2 ⟨fun r hr => ?_, mg_rise ha hb'.2⟩
      rcases (mg_mem _ _ _).1 hr with hr | hr
      · rcases List.mem_cons.1 hr with rfl | hr
        · exact h
        · have := ha'.1 r hr; omega
      · exact hb'.1 r hr
termination_by a b => a.length + b.length
theorem rise_ext : ∀ {a b : List Nat}, Rise a → Rise b → (∀ r, r ∈ a ↔ r ∈ b) → a = b
  | [], [], _, _, _ => rfl
  | [], y :: b, _, _, h => by have := (h y).2 (by simp); simp at this
  | x :: a, [], _, _, h => by have := (h x).1 (by simp); simp at this
  | x :: a, y :: b, ha, hb, h => by
    have ha' := List.pairwise_cons.1 ha
    have hb' := List.pairwise_cons.1 hb
    have e : x = y := by
      rcases List.mem_cons.1 ((h x).1 (by simp)) with e | e
      · exact e
      · rcases List.mem_cons.1 ((h y).2 (by simp)) with e' | e'
        · exact e'.symm
        · have h1 := hb'.1 x e; have h2 := ha'.1 y e'; omega
    subst e
    rw [rise_ext ha'.2 hb'.2 (fun r => ?_)]
    constructor
    · intro hr
      rcases List.mem_cons.1 ((h r).1 (by simp [hr])) with e | e
      · have := ha'.1 r hr; omega
      · exact e
    · intro hr
      rcases List.mem_cons.1 ((h r).2 (by simp [hr])) with e | e
      · have := hb'.1 r hr; omega
      · exact e
theorem mg_allv {a b : List Nat} (ha : AllV a) (hb : AllV b) : AllV (mg a b) := fun r hr => by
  rcases (mg_mem _ _ _).1 hr with h | h
  · exact ha r h
  · exact hb r h
theorem mg_comm {a b : List Nat} (ha : Rise a) (hb : Rise b) : mg a b = mg b a :=
  rise_ext (mg_rise ha hb) (mg_rise hb ha) (fun r => by rw [mg_mem, mg_mem]; exact Or.comm)
theorem mg_idem {a : List Nat} (ha : Rise a) : mg a a = a := rise_ext (mg_rise ha ha) ha (fun r => by rw [mg_mem]; simp)
theorem mg_assoc {a b c : List Nat} (ha : Rise a) (hb : Rise b) (hc : Rise c) : mg (mg a b) c = mg a (mg b c) :=
  rise_ext (mg_rise (mg_rise ha hb) hc) (mg_rise ha (mg_rise hb hc)) (fun r => by rw [mg_mem, mg_mem, mg_mem, mg_mem]; exact or_assoc)
def Va.jn : Va → Va → Va
  | .flag a, .flag b => .flag (a || b)
  | .real u, .real w => .real (gt u w)
  | .tally c, .tally d => .tally (mxC c d)
  | .runes r, .runes s => .runes (mg r s)
  | .corner u w, .corner u' w' => .corner (gt u u') (gt w w')
  | v, _ => v
theorem gt_idem (u : Nat) : gt u u = u := by unfold gt; split <;> rfl
theorem gt_assoc (u v w : Nat) : gt (gt u v) w = gt u (gt v w) := by
  unfold gt
  by_cases h1 : rk v < rk u
  · by_cases h2 : rk w < rk v
    · rw [if_pos h1, if_pos h2, if_pos h1, if_pos (by omega)]
    · rw [if_pos h1, if_neg h2]
  · by_cases h2 : rk w < rk v
    · rw [if_neg h1, if_pos h2, if_neg h1]
    · rw [if_neg h1, if_neg h2, if_neg (by omega)]
theorem mxC_comm (c d : List Nat) : mxC c d = mxC d c := by
  unfold mxC
  induction c generalizing d with
  | nil => cases d <;> rfl
  | cons x c ih => cases d with
    | nil => rfl
    | cons y d => rw [List.zipWith_cons_cons, List.zipWith_cons_cons, ih d, Nat.max_comm]
theorem mxC_idem (c : List Nat) : mxC c c = c := by
  unfold mxC
  induction c with
  | nil => rfl
  | cons x c ih => rw [List.zipWith_cons_cons, ih, Nat.max_self]
theorem mxC_assoc (c d e : List Nat) : mxC (mxC c d) e = mxC c (mxC d e) := by
  unfold mxC
  induction c generalizing d e with
  | nil => cases d <;> cases e <;> rfl
  | cons x c ih => cases d with
    | nil => cases e <;> rfl
    | cons y d => cases e with
      | nil => rfl
      | cons z e => rw [List.zipWith_cons_cons, List.zipWith_cons_cons, List.zipWith_cons_cons, List.zipWith_cons_cons, ih d e, Nat.max_assoc]
theorem kind_1' {v : Va} (h : v.kind = 1) : ∃ b, v = .flag b := by cases v <;> first | exact ⟨_, rfl⟩ | cases h
theorem kind_2' {v : Va} (h : v.kind = 2) : ∃ b, v = .real b := by cases v <;> first | exact ⟨_, rfl⟩ | cases h
theorem kind_3' {v : Va} (h : v.kind = 3) : ∃ b, v = .tally b := by cases v <;> first | exact ⟨_, rfl⟩ | cases h
theorem kind_4' {v : Va} (h : v.kind = 4) : ∃ b, v = .runes b := by cases v <;> first | exact ⟨_, rfl⟩ | cases h
theorem kind_5' {v : Va} (h : v.kind = 5) : ∃ b c, v = .corner b c := by cases v <;> first | exact ⟨_, _, rfl⟩ | cases h
/-- Two values of a kind. -/
inductive Two : Va → Va → Prop
  | flag (a b : Bool) : Two (.flag a) (.flag b)
  | real (u w : Nat) : Two (.real u) (.real w)
  | tally (c d : List Nat) : Two (.tally c) (.tally d)
  | runes (r s : List Nat) : Two (.runes r) (.runes s)
  | corner (u w u' w' : Nat) : Two (.corner u w) (.corner u' w')
theorem two_of {v w : Va} (h : v.kind = w.kind) : Two v w := by
  cases v <;> cases w <;> first | constructor | (revert h; simp [Va.kind]; done)
theorem Va.jn_kind {v w : Va} (h : v.kind = w.kind) : (v.jn w).kind = v.kind := by
  cases two_of h <;> rfl
theorem Va.jn_comm {v w : Va} (hv : v.ok) (hw : w.ok) (h : v.kind = w.kind) : v.jn w = w.jn v := by
  cases two_of h with
  | flag a b => simp only [Va.jn]; rw [Bool.or_comm]
  | real u w => simp only [Va.jn]; rw [gt_comm hv hw]
  | tally c d => simp only [Va.jn]; rw [mxC_comm]
  | runes r s => simp only [Va.jn]; rw [mg_comm hv.2.1 hw.2.1]
  | corner u w u' w' => simp only [Va.jn]; rw [gt_comm hv.1 hw.1, gt_comm hv.2 hw.2]
theorem Va.jn_idem {v : Va} (hv : v.ok) : v.jn v = v := by
  cases v with
  | flag a => simp only [Va.jn]; rw [Bool.or_self]
  | real u => simp only [Va.jn]; rw [gt_idem]
  | tally c => simp only [Va.jn]; rw [mxC_idem]
  | runes r => simp only [Va.jn]; rw [mg_idem hv.2.1]
  | corner u w => simp only [Va.jn]; rw [gt_idem, gt_idem]
theorem Va.jn_assoc {u v w : Va} (hu : u.ok) (hv : v.ok) (hw : w.ok) (h : u.kind = v.kind) (h' : v.kind = w.kind) : (u.jn v).jn w = u.jn (v.jn w) := by
  cases two_of h with
  | flag a b => obtain ⟨c, rfl⟩ := kind_1' (v := w) h'.symm; simp only [Va.jn]; rw [Bool.or_assoc]
  | real a b => obtain ⟨c, rfl⟩ := kind_2' (v := w) h'.symm; simp only [Va.jn]; rw [gt_assoc]
  | tally a b => obtain ⟨c, rfl⟩ := kind_3' (v := w) h'.symm; simp only [Va.jn]; rw [mxC_assoc]
  | runes a b => obtain ⟨c, rfl⟩ := kind_4' (v := w) h'.symm; simp only [Va.jn]; rw [mg_assoc hu.2.1 hv.2.1 hw.2.1]
  | corner a b a' b' => obtain ⟨c, c', rfl⟩ := kind_5' (v := w) h'.symm; simp only [Va.jn]; rw [gt_assoc, gt_assoc]
theorem Va.jn_ok {v w : Va} (hv : v.ok) (hw : w.ok) (h : v.kind = w.kind) (hl : (v.jn w).bytes.length ≤ 40) : (v.jn w).ok := by
  cases two_of h with
  | flag a b => trivial
  | real a b => exact can_gt hv hw
  | tally a b => exact Ct.mx hv hw
  | runes a b => exact ⟨mg_allv hv.1 hw.1, mg_rise hv.2.1 hw.2.1, by simp only [Va.jn, Va.bytes, List.length_cons] at hl; omega⟩
  | corner a b a' b' => exact ⟨can_gt hv.1 hw.1, can_gt hv.2 hw.2⟩
/-! ### Kind, Join, Below of whatever bytes, plainly. -/
/-- Both are values, of one kind. -/
def Pr (L M : List UInt8) (v w : Va) : Prop := v.ok ∧ w.ok ∧ v.kind = w.kind ∧ L = v.bytes ∧ M = w.bytes
open Classical in
@[irreducible] noncomputable def jnB (L M : List UInt8) : List UInt8 × Int :=
  if h : ∃ p : Va × Va, Pr L M p.1 p.2 then (if ((Classical.choose h).1.jn (Classical.choose h).2).bytes.length ≤ 40 then (((Classical.choose h).1.jn (Classical.choose h).2).bytes, 0) else ([], 82)) else ([], 120)
theorem Pr.inj {L M : List UInt8} {v w v' w' : Va} (h : Pr L M v w) (h' : Pr L M v' w') : v = v' ∧ w = w' :=
  ⟨Va.inj h.1 h'.1 (h.2.2.2.1.symm.trans h'.2.2.2.1), Va.inj h.2.1 h'.2.1 (h.2.2.2.2.symm.trans h'.2.2.2.2)⟩
theorem jnB_va {L M : List UInt8} {v w : Va} (h : Pr L M v w) : jnB L M = if (v.jn w).bytes.length ≤ 40 then ((v.jn w).bytes, 0) else ([], 82) := by
  have h0 : ∃ p : Va × Va, Pr L M p.1 p.2 := ⟨(v, w), h⟩
  have hc : Pr L M (Classical.choose h0).1 (Classical.choose h0).2 := Classical.choose_spec h0
  obtain ⟨e1, e2⟩ := hc.inj h
  unfold jnB
  rw [dif_pos h0, e1, e2]
theorem jnB_no {L M : List UInt8} (h : ∀ v w, ¬ Pr L M v w) : jnB L M = ([], 120) := by
  unfold jnB
  rw [dif_neg (fun ⟨p, hp⟩ => h p.1 p.2 hp)]
inductive Jn (L M : List UInt8) : Prop
  | big (v w : Va) (h : Pr L M v w) (hl : ¬ (v.jn w).bytes.length ≤ 40) (e : jnB L M = ([], 82))
  | val (v w : Va) (h : Pr L M v w) (hl : (v.jn w).bytes.length ≤ 40) (e : jnB L M = ((v.jn w).bytes, 0))
  | no (h : ∀ v w, ¬ Pr L M v w) (e : jnB L M = ([], 120))
theorem jn_cases (L M : List UInt8) : Jn L M := by
  by_cases h : ∃ p : Va × Va, Pr L M p.1 p.2
  · obtain ⟨⟨v, w⟩, h⟩ := h
    have e := jnB_va h
    by_cases hl : (v.jn w).bytes.length ≤ 40
    · rw [if_pos hl] at e; exact .val v w h hl e
    · rw [if_neg hl] at e; exact .big v w h hl e
  · have h' : ∀ v w, ¬ Pr L M v w := fun v w hp => h ⟨(v, w), hp⟩
    exact .no h' (jnB_no h')
open Classical in
@[irreducible] noncomputable def blB (L M : List UInt8) : Bool := decide ((jnB L M).2 = 0 ∧ (jnB L M).1 = M)
theorem blB_iff (L M : List UInt8) : blB L M = true ↔ (jnB L M).2 = 0 ∧ (jnB L M).1 = M := by unfold blB; exact decide_eq_true_iff
theorem blB_va {L M : List UInt8} (h : blB L M = true) : ∃ v w, Pr L M v w ∧ v.jn w = w := by
  rw [blB_iff] at h
  rcases jn_cases L M with ⟨v, w, hp, hl, e⟩ | ⟨v, w, hp, hl, e⟩ | ⟨hp, e⟩
  · rw [e] at h; exact absurd h.1 (by show ¬ ((82 : Int) = 0); decide)
  · rw [e] at h
    exact ⟨v, w, hp, Va.inj (Va.jn_ok hp.1 hp.2.1 hp.2.2.1 hl) hp.2.1 (h.2.trans hp.2.2.2.2)⟩
  · rw [e] at h; exact absurd h.1 (by show ¬ ((120 : Int) = 0); decide)
theorem blB_of {L M : List UInt8} {v w : Va} (h : Pr L M v w) (e : v.jn w = w) : blB L M = true := by
  rw [blB_iff, jnB_va h, e, if_pos (Va.len h.2.1)]
  exact ⟨rfl, h.2.2.2.2.symm⟩
theorem Pr.swap {L M : List UInt8} {v w : Va} (h : Pr L M v w) : Pr M L w v := ⟨h.2.1, h.1, h.2.2.1.symm, h.2.2.2.2, h.2.2.2.1⟩
/-! ### The laws. -/
theorem law_comm (L M : List UInt8) : jnB M L = jnB L M := by
  rcases jn_cases L M with ⟨v, w, hp, hl, e⟩ | ⟨v, w, hp, hl, e⟩ | ⟨hp, e⟩
  · rw [e, jnB_va hp.swap, ← Va.jn_comm hp.1 hp.2.1 hp.2.2.1, if_neg hl]
  · rw [e, jnB_va hp.swap, ← Va.jn_comm hp.1 hp.2.1 hp.2.2.1, if_pos hl]
  · rw [e, jnB_no (fun v w h => hp w v h.swap)]
theorem law_self {L : List UInt8} (h : kd L ≠ 0) : jnB L L = (L, 0) ∧ blB L L = true := by
  by_cases hV : IsVa L
  · obtain ⟨v, hv, e⟩ := hV
    have hp : Pr L L v v := ⟨hv, hv, rfl, e, e⟩
    refine ⟨?_, blB_of hp (Va.jn_idem hv)⟩
    rw [jnB_va hp, Va.jn_idem hv, if_pos (Va.len hv), ← e]
  · exact absurd (kd_no hV) h
theorem law_errs (L M : List UInt8) : (jnB L M).2 = 0 ∨ (jnB L M).2 = 82 ∨ (jnB L M).2 = 120 := by
  rcases jn_cases L M with ⟨v, w, hp, hl, e⟩ | ⟨v, w, hp, hl, e⟩ | ⟨hp, e⟩ <;> rw [e]
  · exact .inr (.inl rfl)
  · exact .inl rfl
  · exact .inr (.inr rfl)
theorem law_120 {L M : List UInt8} (h : (jnB L M).2 ≠ 0) : blB L M = false := by
  cases e : blB L M with
  | false => rfl
  | true => exact absurd ((blB_iff _ _).1 e).1 h
theorem law_anti {L M : List UInt8} (h : blB L M = true) (h' : blB M L = true) : L = M := by
  rw [blB_iff] at h h'
  rw [law_comm L M] at h'
  exact h'.2.symm.trans h.2
theorem law_up {L M : List UInt8} (h : (jnB L M).2 = 0) : kd (jnB L M).1 = kd L ∧ blB L (jnB L M).1 = true ∧ blB M (jnB L M).1 = true := by
  rcases jn_cases L M with ⟨v, w, hp, hl, e⟩ | ⟨v, w, hp, hl, e⟩ | ⟨hp, e⟩
  · rw [e] at h; exact absurd h (by show ¬ ((82 : Int) = 0); decide)
  · have hok := Va.jn_ok hp.1 hp.2.1 hp.2.2.1 hl
    have hk := Va.jn_kind hp.2.2.1
    have e1 : (jnB L M).1 = (v.jn w).bytes := by rw [e]
    refine ⟨by rw [kd_va hok e1, hk, kd_va hp.1 hp.2.2.2.1], ?_, ?_⟩
    · refine blB_of (v := v) (w := v.jn w) ⟨hp.1, hok, hk.symm, hp.2.2.2.1, e1⟩ ?_
      rw [← Va.jn_assoc hp.1 hp.1 hp.2.1 rfl hp.2.2.1, Va.jn_idem hp.1]
    · refine blB_of (v := w) (w := v.jn w) ⟨hp.2.1, hok, hp.2.2.1.symm.trans hk.symm, hp.2.2.2.2, e1⟩ ?_
      rw [Va.jn_comm hp.1 hp.2.1 hp.2.2.1, ← Va.jn_assoc hp.2.1 hp.2.1 hp.1 rfl hp.2.2.1.symm, Va.jn_idem hp.2.1]
  · rw [e] at h; exact absurd h (by show ¬ ((120 : Int) = 0); decide)
theorem val_of {L M : List UInt8} (h : (jnB L M).2 = 0) : ∃ v w, Pr L M v w ∧ (v.jn w).ok ∧ (jnB L M).1 = (v.jn w).bytes := by
  rcases jn_cases L M with ⟨v, w, hp, hl, e⟩ | ⟨v, w, hp, hl, e⟩ | ⟨hp, e⟩
  · rw [e] at h; exact absurd h (by show ¬ ((82 : Int) = 0); decide)
  · exact ⟨v, w, hp, Va.jn_ok hp.1 hp.2.1 hp.2.2.1 hl, by rw [e]⟩
  · rw [e] at h; exact absurd h (by show ¬ ((120 : Int) = 0); decide)
theorem law_lub {L M N : List UInt8} (h : (jnB L M).2 = 0) (h1 : blB L N = true) (h2 : blB M N = true) : blB (jnB L M).1 N = true := by
  obtain ⟨v, w, hp, hok, e⟩ := val_of h
  obtain ⟨v', z, hp1, e1⟩ := blB_va h1
  obtain ⟨w', z', hp2, e2⟩ := blB_va h2
  obtain rfl := Va.inj hp.1 hp1.1 (hp.2.2.2.1.symm.trans hp1.2.2.2.1)
  obtain rfl := Va.inj hp.2.1 hp2.1 (hp.2.2.2.2.symm.trans hp2.2.2.2.1)
  obtain rfl := Va.inj hp1.2.1 hp2.2.1 (hp1.2.2.2.2.symm.trans hp2.2.2.2.2)
  refine blB_of ⟨hok, hp1.2.1, (Va.jn_kind hp.2.2.1).trans hp1.2.2.1, e, hp1.2.2.2.2⟩ ?_
  rw [Va.jn_assoc hp.1 hp.2.1 hp1.2.1 hp.2.2.1 hp2.2.2.1, e2, e1]
theorem law_assoc {L M N : List UInt8} (h1 : (jnB L M).2 = 0) (h2 : (jnB M N).2 = 0) (h3 : (jnB (jnB L M).1 N).2 = 0) (h4 : (jnB L (jnB M N).1).2 = 0) : (jnB L (jnB M N).1).1 = (jnB (jnB L M).1 N).1 := by
  obtain ⟨v, w, hp, hok, e⟩ := val_of h1
  obtain ⟨w', z, hp2, hok2, e2⟩ := val_of h2
  obtain rfl := Va.inj hp.2.1 hp2.1 (hp.2.2.2.2.symm.trans hp2.2.2.2.1)
  obtain ⟨a, b, hp3, _, e3⟩ := val_of h3
  obtain ⟨c, d, hp4, _, e4⟩ := val_of h4
  obtain rfl := Va.inj hok hp3.1 (e.symm.trans hp3.2.2.2.1)
  obtain rfl := Va.inj hp2.2.1 hp3.2.1 (hp2.2.2.2.2.symm.trans hp3.2.2.2.2)
  obtain rfl := Va.inj hp.1 hp4.1 (hp.2.2.2.1.symm.trans hp4.2.2.2.1)
  obtain rfl := Va.inj hok2 hp4.2.1 (e2.symm.trans hp4.2.2.2.2)
  rw [e3, e4, Va.jn_assoc hp.1 hp.2.1 hp2.2.1 hp.2.2.1 hp2.2.2.1]
end Go.Proofs.YtimddbgnaeeggaaDoor.KD
namespace Go.Proofs.YtimddbgnaeeggaaDoor.KD
open Go.Eng
set_option maxRecDepth 100000
theorem i32s_eng (L : List Nat) : Go.Eng.i32s L = KD.i32s L := by unfold Go.Eng.i32s KD.i32s; rfl
theorem runesGo_flat (rs : List Nat) (hv : AllV rs) : ∀ (n i : Nat) (P : List UInt8), P.length = i → rs.length ≤ n → runesGo (bs (P ++ flat rs)) n i = rs := by
  induction rs with
  | nil =>
    intro n i P hP _
    cases n with
    | zero => rfl
    | succ n =>
      unfold runesGo
      rw [if_neg (by rw [bs_size, flat_nil, List.append_nil]; omega)]
  | cons r rs ih =>
    intro n i P hP hn
    cases n with
    | zero => simp at hn
    | succ n =>
      have hp := enc_pos r
      have hd : decL ((P ++ flat (r :: rs)).drop i) = some (r, (enc r).length) := by
        rw [List.drop_left' hP]; exact flat_dec hv
      have hl : i < (P ++ flat (r :: rs)).length := by rw [List.length_append, flat_clen]; omega
      have he : Utf8.decode (bs (P ++ flat (r :: rs))) i = (r, (enc r).length) := by
        rcases decode_bs (P ++ flat (r :: rs)) i with h | h
        · rw [h, hd]; rfl
        · omega
      unfold runesGo
      rw [if_pos (by rw [bs_size]; exact hl), he]
      congr 1
      have e : P ++ flat (r :: rs) = (P ++ enc r) ++ flat rs := by rw [flat_cons, List.append_assoc]
      show runesGo (bs (P ++ flat (r :: rs))) n (i + (enc r).length) = rs
      rw [e]
      exact ih (allv_tail hv) n _ (P ++ enc r) (by rw [List.length_append, hP]) (by simpa using hn)
theorem flat_few (rs : List Nat) : rs.length ≤ (flat rs).length := by
  induction rs with
  | nil => exact Nat.zero_le _
  | cons r rs ih => rw [flat_clen, List.length_cons]; have := enc_pos r; omega
theorem runesL_flat {rs : List Nat} (hv : AllV rs) : runesL (bs (flat rs)) = rs := by
  unfold runesL
  rw [bs_size]
  exact runesGo_flat rs hv _ 0 [] rfl (flat_few rs)
section
variable {ro : Addr → A → Prop}
set_option maxHeartbeats 1000000 in
theorem asFlag0 (L : List UInt8) (h : kd L ≠ 1) {K : V → Hp → Prop} (hK : K (.t [.a (.bool false), .a (.int .i64 120)]) []) : Go.Eng.Fn Tryd.prog ro 33 [.a (.str (bs L))] [] K := by
  have g0 := True.intro
  have g1 := True.intro
  have k := @kindB ro L
  obtain ⟨z, hz⟩ : ∃ z : Int, z = (kd L : Int) := ⟨_, rfl⟩
  rw [← hz] at k
  refine Fn.weak ?_
  refine Fn.of_code (gOf []) Tryd.func33 rfl (Nat.le_of_ble_eq_true rfl) ?_
  have c0 : (z != 1) = true := by simp; omega
  generalize bs L = s at *
  conv => whnf
  repeat' ((first | ((with_reducible refine y'r ?_ ?_); (· decide +kernel)) | ((with_reducible refine y'g ?_ ?_); (· exact ⟨_, rfl⟩)) | (with_reducible first | refine y'b ‹_› ?_ | refine y'n ‹_› ?_ | refine y'1 ‹_› ?_ | refine y'2 ‹_› ?_ | refine y'3 ?_ | refine y'4 ?_) | ((with_reducible refine y'n ?_ ?_); (· first | with_reducible assumption | exact decide_eq_true (by omega) | decide +kernel)) | (with_reducible first | refine y'n (y'7 ‹_› ‹_›) ?_ | refine y'v (y'8 ‹_› ‹_›) (fun s hs => ?_) | refine y'5 ‹_› ?_ | refine y'6 ‹_› ?_) | ((with_reducible apply y'o); (· first | exact g0 | exact g1)) | ((with_reducible refine y'p ?_ ?_); (· rfl)) | ((with_reducible refine y'q ?_ ?_); (· rfl)) | fail) <;> (conv => whnf))
  refine Fn.frame [] (by rfl) (by exact trivial) (by rfl) (k ?_)
  conv => whnf
  repeat' ((first | ((with_reducible refine y'r ?_ ?_); (· decide +kernel)) | ((with_reducible refine y'g ?_ ?_); (· exact ⟨_, rfl⟩)) | (with_reducible first | refine y'b ‹_› ?_ | refine y'n ‹_› ?_ | refine y'1 ‹_› ?_ | refine y'2 ‹_› ?_ | refine y'3 ?_ | refine y'4 ?_) | ((with_reducible refine y'n ?_ ?_); (· first | with_reducible assumption | exact decide_eq_true (by omega) | decide +kernel)) | (with_reducible first | refine y'n (y'7 ‹_› ‹_›) ?_ | refine y'v (y'8 ‹_› ‹_›) (fun s hs => ?_) | refine y'5 ‹_› ?_ | refine y'6 ‹_› ?_) | ((with_reducible apply y'o); (· first | exact g0 | exact g1)) | ((with_reducible refine y'p ?_ ?_); (· rfl)) | ((with_reducible refine y'q ?_ ?_); (· rfl)) | fail) <;> (conv => whnf))
  exact keepOf (v₀ := .t [.a (.bool false), .a (.int .i64 120)]) [] [] rfl trivial rfl hK
set_option maxHeartbeats 1000000 in
theorem asReal0 (L : List UInt8) (h : kd L ≠ 2) {K : V → Hp → Prop} (hK : K (.t [.a (.flt .f64 0), .a (.int .i64 120)]) []) : Go.Eng.Fn Tryd.prog ro 18 [.a (.str (bs L))] [] K := by
  have g0 := True.intro
  have g1 := True.intro
  have k := @kindB ro L
  obtain ⟨z, hz⟩ : ∃ z : Int, z = (kd L : Int) := ⟨_, rfl⟩
  rw [← hz] at k
  refine Fn.weak ?_
  refine Fn.of_code (gOf []) Tryd.func18 rfl (Nat.le_of_ble_eq_true rfl) ?_
  have c0 : (z != 2) = true := by simp; omega
  generalize bs L = s at *
  conv => whnf
  repeat' ((first | ((with_reducible refine y'r ?_ ?_); (· decide +kernel)) | ((with_reducible refine y'g ?_ ?_); (· exact ⟨_, rfl⟩)) | (with_reducible first | refine y'b ‹_› ?_ | refine y'n ‹_› ?_ | refine y'1 ‹_› ?_ | refine y'2 ‹_› ?_ | refine y'3 ?_ | refine y'4 ?_) | ((with_reducible refine y'n ?_ ?_); (· first | with_reducible assumption | exact decide_eq_true (by omega) | decide +kernel)) | (with_reducible first | refine y'n (y'7 ‹_› ‹_›) ?_ | refine y'v (y'8 ‹_› ‹_›) (fun s hs => ?_) | refine y'5 ‹_› ?_ | refine y'6 ‹_› ?_) | ((with_reducible apply y'o); (· first | exact g0 | exact g1)) | ((with_reducible refine y'p ?_ ?_); (· rfl)) | ((with_reducible refine y'q ?_ ?_); (· rfl)) | fail) <;> (conv => whnf))
  refine Fn.frame [] (by rfl) (by exact trivial) (by rfl) (k ?_)
  conv => whnf
  repeat' ((first | ((with_reducible refine y'r ?_ ?_); (· decide +kernel)) | ((with_reducible refine y'g ?_ ?_); (· exact ⟨_, rfl⟩)) | (with_reducible first | refine y'b ‹_› ?_ | refine y'n ‹_› ?_ | refine y'1 ‹_› ?_ | refine y'2 ‹_› ?_ | refine y'3 ?_ | refine y'4 ?_) | ((with_reducible refine y'n ?_ ?_); (· first | with_reducible assumption | exact decide_eq_true (by omega) | decide +kernel)) | (with_reducible first | refine y'n (y'7 ‹_› ‹_›) ?_ | refine y'v (y'8 ‹_› ‹_›) (fun s hs => ?_) | refine y'5 ‹_› ?_ | refine y'6 ‹_› ?_) | ((with_reducible apply y'o); (· first | exact g0 | exact g1)) | ((with_reducible refine y'p ?_ ?_); (· rfl)) | ((with_reducible refine y'q ?_ ?_); (· rfl)) | fail) <;> (conv => whnf))
  exact keepOf (v₀ := .t [.a (.flt .f64 0), .a (.int .i64 120)]) [] [] rfl trivial rfl hK
set_option maxHeartbeats 1000000 in
theorem asCorner0 (L : List UInt8) (h : kd L ≠ 5) {K : V → Hp → Prop} (hK : K (.t [.a (.cpx .f64 0 0), .a (.int .i64 120)]) []) : Go.Eng.Fn Tryd.prog ro 19 [.a (.str (bs L))] [] K := by
  have g0 := True.intro
  have g1 := True.intro
  have k := @kindB ro L
  obtain ⟨z, hz⟩ : ∃ z : Int, z = (kd L : Int) := ⟨_, rfl⟩
  rw [← hz] at k
  refine Fn.weak ?_
  refine Fn.of_code (gOf []) Tryd.func19 rfl (Nat.le_of_ble_eq_true rfl) ?_
  have c0 : (z != 5) = true := by simp; omega
  generalize bs L = s at *
  conv => whnf
  repeat' ((first | ((with_reducible refine y'r ?_ ?_); (· decide +kernel)) | ((with_reducible refine y'g ?_ ?_); (· exact ⟨_, rfl⟩)) | (with_reducible first | refine y'b ‹_› ?_ | refine y'n ‹_› ?_ | refine y'1 ‹_› ?_ | refine y'2 ‹_› ?_ | refine y'3 ?_ | refine y'4 ?_) | ((with_reducible refine y'n ?_ ?_); (· first | with_reducible assumption | exact decide_eq_true (by omega) | decide +kernel)) | (with_reducible first | refine y'n (y'7 ‹_› ‹_›) ?_ | refine y'v (y'8 ‹_› ‹_›) (fun s hs => ?_) | refine y'5 ‹_› ?_ | refine y'6 ‹_› ?_) | ((with_reducible apply y'o); (· first | exact g0 | exact g1)) | ((with_reducible refine y'p ?_ ?_); (· rfl)) | ((with_reducible refine y'q ?_ ?_); (· rfl)) | fail) <;> (conv => whnf))
  refine Fn.frame [] (by rfl) (by exact trivial) (by rfl) (k ?_)
  conv => whnf
  repeat' ((first | ((with_reducible refine y'r ?_ ?_); (· decide +kernel)) | ((with_reducible refine y'g ?_ ?_); (· exact ⟨_, rfl⟩)) | (with_reducible first | refine y'b ‹_› ?_ | refine y'n ‹_› ?_ | refine y'1 ‹_› ?_ | refine y'2 ‹_› ?_ | refine y'3 ?_ | refine y'4 ?_) | ((with_reducible refine y'n ?_ ?_); (· first | with_reducible assumption | exact decide_eq_true (by omega) | decide +kernel)) | (with_reducible first | refine y'n (y'7 ‹_› ‹_›) ?_ | refine y'v (y'8 ‹_› ‹_›) (fun s hs => ?_) | refine y'5 ‹_› ?_ | refine y'6 ‹_› ?_) | ((with_reducible apply y'o); (· first | exact g0 | exact g1)) | ((with_reducible refine y'p ?_ ?_); (· rfl)) | ((with_reducible refine y'q ?_ ?_); (· rfl)) | fail) <;> (conv => whnf))
  exact keepOf (v₀ := .t [.a (.cpx .f64 0 0), .a (.int .i64 120)]) [] [] rfl trivial rfl hK
set_option maxHeartbeats 1000000 in
theorem asTally0 (L : List UInt8) (h : kd L ≠ 3) {K : V → Hp → Prop} (hK : K (.t [.a (.int .i32 0), .a (.int .i64 120)]) []) : Go.Eng.Fn Tryd.prog ro 31 [.a (.str (bs L))] [] K := by
  have g0 := True.intro
  have g1 := True.intro
  have k := @kindB ro L
  obtain ⟨z, hz⟩ : ∃ z : Int, z = (kd L : Int) := ⟨_, rfl⟩
  rw [← hz] at k
  refine Fn.weak ?_
  refine Fn.of_code (gOf []) Tryd.func31 rfl (Nat.le_of_ble_eq_true rfl) ?_
  have c0 : (z != 3) = true := by simp; omega
  generalize bs L = s at *
  conv => whnf
  repeat' ((first | ((with_reducible refine y'r ?_ ?_); (· decide +kernel)) | ((with_reducible refine y'g ?_ ?_); (· exact ⟨_, rfl⟩)) | (with_reducible first | refine y'b ‹_› ?_ | refine y'n ‹_› ?_ | refine y'1 ‹_› ?_ | refine y'2 ‹_› ?_ | refine y'3 ?_ | refine y'4 ?_) | ((with_reducible refine y'n ?_ ?_); (· first | with_reducible assumption | exact decide_eq_true (by omega) | decide +kernel)) | (with_reducible first | refine y'n (y'7 ‹_› ‹_›) ?_ | refine y'v (y'8 ‹_› ‹_›) (fun s hs => ?_) | refine y'5 ‹_› ?_ | refine y'6 ‹_› ?_) | ((with_reducible apply y'o); (· first | exact g0 | exact g1)) | ((with_reducible refine y'p ?_ ?_); (· rfl)) | ((with_reducible refine y'q ?_ ?_); (· rfl)) | fail) <;> (conv => whnf))
  refine Fn.frame [] (by rfl) (by exact trivial) (by rfl) (k ?_)
  conv => whnf
  repeat' ((first | ((with_reducible refine y'r ?_ ?_); (· decide +kernel)) | ((with_reducible refine y'g ?_ ?_); (· exact ⟨_, rfl⟩)) | (with_reducible first | refine y'b ‹_› ?_ | refine y'n ‹_› ?_ | refine y'1 ‹_› ?_ | refine y'2 ‹_› ?_ | refine y'3 ?_ | refine y'4 ?_) | ((with_reducible refine y'n ?_ ?_); (· first | with_reducible assumption | exact decide_eq_true (by omega) | decide +kernel)) | (with_reducible first | refine y'n (y'7 ‹_› ‹_›) ?_ | refine y'v (y'8 ‹_› ‹_›) (fun s hs => ?_) | refine y'5 ‹_› ?_ | refine y'6 ‹_› ?_) | ((with_reducible apply y'o); (· first | exact g0 | exact g1)) | ((with_reducible refine y'p ?_ ?_); (· rfl)) | ((with_reducible refine y'q ?_ ?_); (· rfl)) | fail) <;> (conv => whnf))
  exact keepOf (v₀ := .t [.a (.int .i32 0), .a (.int .i64 120)]) [] [] rfl trivial rfl hK
set_option maxHeartbeats 1000000 in
theorem asRunes0 (L : List UInt8) (h : kd L ≠ 4) {K : V → Hp → Prop} (hK : K (.t [.a .nils, .a (.int .i64 120)]) []) : Go.Eng.Fn Tryd.prog ro 34 [.a (.str (bs L))] [] K := by
  have g0 := True.intro
  have g1 := True.intro
  have k := @kindB ro L
  obtain ⟨z, hz⟩ : ∃ z : Int, z = (kd L : Int) := ⟨_, rfl⟩
  rw [← hz] at k
  refine Fn.weak ?_
  refine Fn.of_code (gOf []) Tryd.func34 rfl (Nat.le_of_ble_eq_true rfl) ?_
  have c0 : (z != 4) = true := by simp; omega
  generalize bs L = s at *
  conv => whnf
  repeat' ((first | ((with_reducible refine y'r ?_ ?_); (· decide +kernel)) | ((with_reducible refine y'g ?_ ?_); (· exact ⟨_, rfl⟩)) | (with_reducible first | refine y'b ‹_› ?_ | refine y'n ‹_› ?_ | refine y'1 ‹_› ?_ | refine y'2 ‹_› ?_ | refine y'3 ?_ | refine y'4 ?_) | ((with_reducible refine y'n ?_ ?_); (· first | with_reducible assumption | exact decide_eq_true (by omega) | decide +kernel)) | (with_reducible first | refine y'n (y'7 ‹_› ‹_›) ?_ | refine y'v (y'8 ‹_› ‹_›) (fun s hs => ?_) | refine y'5 ‹_› ?_ | refine y'6 ‹_› ?_) | ((with_reducible apply y'o); (· first | exact g0 | exact g1)) | ((with_reducible refine y'p ?_ ?_); (· rfl)) | ((with_reducible refine y'q ?_ ?_); (· rfl)) | fail) <;> (conv => whnf))
  refine Fn.frame [] (by rfl) (by exact trivial) (by rfl) (k ?_)
  conv => whnf
  repeat' ((first | ((with_reducible refine y'r ?_ ?_); (· decide +kernel)) | ((with_reducible refine y'g ?_ ?_); (· exact ⟨_, rfl⟩)) | (with_reducible first | refine y'b ‹_› ?_ | refine y'n ‹_› ?_ | refine y'1 ‹_› ?_ | refine y'2 ‹_› ?_ | refine y'3 ?_ | refine y'4 ?_) | ((with_reducible refine y'n ?_ ?_); (· first | with_reducible assumption | exact decide_eq_true (by omega) | decide +kernel)) | (with_reducible first | refine y'n (y'7 ‹_› ‹_›) ?_ | refine y'v (y'8 ‹_› ‹_›) (fun s hs => ?_) | refine y'5 ‹_› ?_ | refine y'6 ‹_› ?_) | ((with_reducible apply y'o); (· first | exact g0 | exact g1)) | ((with_reducible refine y'p ?_ ?_); (· rfl)) | ((with_reducible refine y'q ?_ ?_); (· rfl)) | fail) <;> (conv => whnf))
  exact keepOf (v₀ := .t [.a .nils, .a (.int .i64 120)]) [] [] rfl trivial rfl hK
set_option maxHeartbeats 1000000 in
theorem asFlag1 (b : Bool) {K : V → Hp → Prop} (hK : K (.t [.a (.bool b), .a (.int .i64 0)]) []) : Go.Eng.Fn Tryd.prog ro 33 [.a (.str (bs (Va.flag b).bytes))] [] K := by
  have k := @kindAll ro (Va.flag b).bytes
  have g0 : byteAt (bs (Va.flag b).bytes) 1 = some (if b then 1 else 0) := byteAt_bs (i := 1) rfl
  have g1 := True.intro
  have kk : ∀ K : V → Hp → Prop, K (.a (.int .u8 1)) [] → Go.Eng.Fn Tryd.prog ro 24 [.a (.str (bs (Va.flag b).bytes))] [] K := fun K hK => k (fun v hv e => by rw [← Va.inj (v := .flag b) trivial hv e]; exact hK) (fun h => absurd ⟨.flag b, trivial, rfl⟩ h)
  clear k
  generalize bs (Va.flag b).bytes = s at *
  refine Fn.weak ?_
  refine Fn.of_code (gOf []) Tryd.func33 rfl (Nat.le_of_ble_eq_true rfl) ?_
  conv => whnf
  repeat' ((first | ((with_reducible refine y'r ?_ ?_); (· decide +kernel)) | ((with_reducible refine y'g ?_ ?_); (· exact ⟨_, rfl⟩)) | (with_reducible first | refine y'b ‹_› ?_ | refine y'n ‹_› ?_ | refine y'1 ‹_› ?_ | refine y'2 ‹_› ?_ | refine y'3 ?_ | refine y'4 ?_) | ((with_reducible refine y'n ?_ ?_); (· first | with_reducible assumption | exact decide_eq_true (by omega) | decide +kernel)) | (with_reducible first | refine y'n (y'7 ‹_› ‹_›) ?_ | refine y'v (y'8 ‹_› ‹_›) (fun s hs => ?_) | refine y'5 ‹_› ?_ | refine y'6 ‹_› ?_) | ((with_reducible apply y'o); (· first | exact g0 | exact g1)) | ((with_reducible refine y'p ?_ ?_); (· rfl)) | ((with_reducible refine y'q ?_ ?_); (· rfl)) | fail) <;> (conv => whnf))
  refine Fn.frame [] (by rfl) (by exact trivial) (by rfl) (kk _ ?_)
  cases b with
  | true =>
    conv => whnf
    repeat' ((first | ((with_reducible refine y'r ?_ ?_); (· decide +kernel)) | ((with_reducible refine y'g ?_ ?_); (· exact ⟨_, rfl⟩)) | (with_reducible first | refine y'b ‹_› ?_ | refine y'n ‹_› ?_ | refine y'1 ‹_› ?_ | refine y'2 ‹_› ?_ | refine y'3 ?_ | refine y'4 ?_) | ((with_reducible refine y'n ?_ ?_); (· first | with_reducible assumption | exact decide_eq_true (by omega) | decide +kernel)) | (with_reducible first | refine y'n (y'7 ‹_› ‹_›) ?_ | refine y'v (y'8 ‹_› ‹_›) (fun s hs => ?_) | refine y'5 ‹_› ?_ | refine y'6 ‹_› ?_) | ((with_reducible apply y'o); (· first | exact g0 | exact g1)) | ((with_reducible refine y'p ?_ ?_); (· rfl)) | ((with_reducible refine y'q ?_ ?_); (· rfl)) | fail) <;> (conv => whnf))
    exact keepOf (v₀ := .t [.a (.bool true), .a (.int .i64 0)]) [] [] rfl trivial rfl hK
  | false =>
    conv => whnf
    repeat' ((first | ((with_reducible refine y'r ?_ ?_); (· decide +kernel)) | ((with_reducible refine y'g ?_ ?_); (· exact ⟨_, rfl⟩)) | (with_reducible first | refine y'b ‹_› ?_ | refine y'n ‹_› ?_ | refine y'1 ‹_› ?_ | refine y'2 ‹_› ?_ | refine y'3 ?_ | refine y'4 ?_) | ((with_reducible refine y'n ?_ ?_); (· first | with_reducible assumption | exact decide_eq_true (by omega) | decide +kernel)) | (with_reducible first | refine y'n (y'7 ‹_› ‹_›) ?_ | refine y'v (y'8 ‹_› ‹_›) (fun s hs => ?_) | refine y'5 ‹_› ?_ | refine y'6 ‹_› ?_) | ((with_reducible apply y'o); (· first | exact g0 | exact g1)) | ((with_reducible refine y'p ?_ ?_); (· rfl)) | ((with_reducible refine y'q ?_ ?_); (· rfl)) | fail) <;> (conv => whnf))
    exact keepOf (v₀ := .t [.a (.bool false), .a (.int .i64 0)]) [] [] rfl trivial rfl hK
set_option maxHeartbeats 1000000 in
theorem asRunes1 (rl : List Nat) (hv : (Va.runes rl).ok) {K : V → Hp → Prop} (hK : ∀ rs X n cap mk, rs = i32s (rl ++ X) → n = rl.length → cap = n + X.length → K (.t [.a (.slc 0 0 n cap), .a (.int .i64 0)]) [.cells rs 21 mk]) :
    Go.Eng.Fn Tryd.prog ro 34 [.a (.str (bs (4 :: flat rl)))] [] K := by
  have k := @kindAll ro (4 :: flat rl)
  have hx := bs_tail 4 (flat rl)
  have hsz := bs_size (4 :: flat rl)
  rw [List.length_cons] at hsz
  have g0 := True.intro
  have g1 := True.intro
  have c0 : decide ((0 : Int) ≤ 1 ∧ (1 : Int) ≤ ((bs (4 :: flat rl)).size : Int)) = true := decide_eq_true (by omega)
  have kk : ∀ K : V → Hp → Prop, K (.a (.int .u8 4)) [] → Go.Eng.Fn Tryd.prog ro 24 [.a (.str (bs (4 :: flat rl)))] [] K := fun K hK => k (fun v hv' e => by rw [← Va.inj (v := .runes rl) hv hv' e]; exact hK) (fun h => absurd ⟨.runes rl, hv, rfl⟩ h)
  clear k
  have hr := runesL_flat hv.1
  generalize bs (4 :: flat rl) = s at *
  generalize bs (flat rl) = s2 at *
  refine Fn.weak ?_
  refine Fn.of_code (gOf []) Tryd.func34 rfl (Nat.le_of_ble_eq_true rfl) ?_
  conv => whnf
  repeat' ((first | ((with_reducible refine y'r ?_ ?_); (· decide +kernel)) | ((with_reducible refine y'g ?_ ?_); (· exact ⟨_, rfl⟩)) | (with_reducible first | refine y'b ‹_› ?_ | refine y'n ‹_› ?_ | refine y'1 ‹_› ?_ | refine y'2 ‹_› ?_ | refine y'3 ?_ | refine y'4 ?_) | ((with_reducible refine y'n ?_ ?_); (· first | with_reducible assumption | exact decide_eq_true (by omega) | decide +kernel)) | (with_reducible first | refine y'n (y'7 ‹_› ‹_›) ?_ | refine y'v (y'8 ‹_› ‹_›) (fun s hs => ?_) | refine y'5 ‹_› ?_ | refine y'6 ‹_› ?_) | ((with_reducible apply y'o); (· first | exact g0 | exact g1)) | ((with_reducible refine y'p ?_ ?_); (· rfl)) | ((with_reducible refine y'q ?_ ?_); (· rfl)) | fail) <;> (conv => whnf))
  refine Fn.frame [] (by rfl) (by exact trivial) (by rfl) (kk _ ?_)
  conv => whnf
  repeat' ((first | ((with_reducible refine y'r ?_ ?_); (· decide +kernel)) | ((with_reducible refine y'g ?_ ?_); (· exact ⟨_, rfl⟩)) | (with_reducible first | refine y'b ‹_› ?_ | refine y'n ‹_› ?_ | refine y'1 ‹_› ?_ | refine y'2 ‹_› ?_ | refine y'3 ?_ | refine y'4 ?_) | ((with_reducible refine y'n ?_ ?_); (· first | with_reducible assumption | exact decide_eq_true (by omega) | decide +kernel)) | (with_reducible first | refine y'n (y'7 ‹_› ‹_›) ?_ | refine y'v (y'8 ‹_› ‹_›) (fun s hs => ?_) | refine y'5 ‹_› ?_ | refine y'6 ‹_› ?_) | ((with_reducible apply y'o); (· first | exact g0 | exact g1)) | ((with_reducible refine y'p ?_ ?_); (· rfl)) | ((with_reducible refine y'q ?_ ?_); (· rfl)) | fail) <;> (conv => whnf))
  rw [hx, hr, i32s_eng]
  intro cap hcap
  obtain ⟨rs, hrs0⟩ : ∃ rs, rs = KD.i32s rl ++ List.replicate (cap - rl.length) (A.int .i32 0) := ⟨_, rfl⟩
  have hrs : rs = i32s (rl ++ List.replicate (cap - rl.length) 0) := by rw [hrs0]; unfold KD.i32s; simp
  have hp := i32s_pl hrs
  rw [← hrs0]
  clear hrs0
  conv => whnf
  repeat' ((first | ((with_reducible refine y'r ?_ ?_); (· decide +kernel)) | ((with_reducible refine y'g ?_ ?_); (· exact ⟨_, rfl⟩)) | (with_reducible first | refine y'b ‹_› ?_ | refine y'n ‹_› ?_ | refine y'1 ‹_› ?_ | refine y'2 ‹_› ?_ | refine y'3 ?_ | refine y'4 ?_) | ((with_reducible refine y'n ?_ ?_); (· first | with_reducible assumption | exact decide_eq_true (by omega) | decide +kernel)) | (with_reducible first | refine y'n (y'7 ‹_› ‹_›) ?_ | refine y'v (y'8 ‹_› ‹_›) (fun s hs => ?_) | refine y'5 ‹_› ?_ | refine y'6 ‹_› ?_) | ((with_reducible apply y'o); (· first | exact g0 | exact g1)) | ((with_reducible refine y'p ?_ ?_); (· rfl)) | ((with_reducible refine y'q ?_ ?_); (· rfl)) | fail) <;> (conv => whnf))
  exact keepOf (v₀ := .t [.a (.slc 0 0 rl.length cap), .a (.int .i64 0)]) [.cells rs 21 false] [0] rfl ⟨ren_pl hp _ _ _, trivial⟩ (by simp [nodupb, baseb, Ob.okb, frmOk, V.okb, E.okb, A.okb, hp.2]) (hK rs _ _ _ false hrs rfl (by rw [List.length_replicate]; omega))
set_option maxHeartbeats 1000000 in
theorem refTally0 (L : List UInt8) (hL : ¬ IsT L) {K : V → Hp → Prop} (hK : K (.t [.a (.int .i32 0), .a (.int .i64 120)]) []) :
    Go.Eng.Fn Tryd.prog ro 35 [.a (.str (bs L))] [] K := by
  have g0 := True.intro
  have g1 := True.intro
  refine Fn.weak ?_
  refine Fn.of_code (gOf []) Tryd.func35 rfl (Nat.le_of_ble_eq_true rfl) ?_
  have k := @apartAll ro L
  generalize bs L = s at k ⊢
  conv => whnf
  repeat' ((first | ((with_reducible refine y'r ?_ ?_); (· decide +kernel)) | ((with_reducible refine y'g ?_ ?_); (· exact ⟨_, rfl⟩)) | (with_reducible first | refine y'b ‹_› ?_ | refine y'n ‹_› ?_ | refine y'1 ‹_› ?_ | refine y'2 ‹_› ?_ | refine y'3 ?_ | refine y'4 ?_) | ((with_reducible refine y'n ?_ ?_); (· first | with_reducible assumption | exact decide_eq_true (by omega) | decide +kernel)) | (with_reducible first | refine y'n (y'7 ‹_› ‹_›) ?_ | refine y'v (y'8 ‹_› ‹_›) (fun s hs => ?_) | refine y'5 ‹_› ?_ | refine y'6 ‹_› ?_) | ((with_reducible apply y'o); (· first | exact g0 | exact g1)) | ((with_reducible refine y'p ?_ ?_); (· rfl)) | ((with_reducible refine y'q ?_ ?_); (· rfl)) | fail) <;> (conv => whnf))
  refine Fn.frame [] (by rfl) (by exact trivial) (by rfl) (k (fun _ => ?_) (fun v _ _ h3 fs rs Y X n1 c1 n c mk1 mk hfs _ hrs _ => ?_) (fun d hd e => absurd ⟨d, hd, e⟩ hL))
  ·
    conv => whnf
    repeat' ((first | ((with_reducible refine y'r ?_ ?_); (· decide +kernel)) | ((with_reducible refine y'g ?_ ?_); (· exact ⟨_, rfl⟩)) | (with_reducible first | refine y'b ‹_› ?_ | refine y'n ‹_› ?_ | refine y'1 ‹_› ?_ | refine y'2 ‹_› ?_ | refine y'3 ?_ | refine y'4 ?_) | ((with_reducible refine y'n ?_ ?_); (· first | with_reducible assumption | exact decide_eq_true (by omega) | decide +kernel)) | (with_reducible first | refine y'n (y'7 ‹_› ‹_›) ?_ | refine y'v (y'8 ‹_› ‹_›) (fun s hs => ?_) | refine y'5 ‹_› ?_ | refine y'6 ‹_› ?_) | ((with_reducible apply y'o); (· first | exact g0 | exact g1)) | ((with_reducible refine y'p ?_ ?_); (· rfl)) | ((with_reducible refine y'q ?_ ?_); (· rfl)) | fail) <;> (conv => whnf))
    exact keepOf (v₀ := .t [.a (.int .i32 0), .a (.int .i64 120)]) [] [] rfl trivial rfl hK
  · have hp := i32s_pl hrs
    have hfp := f64s_pl hfs
    have d3 : ((v.kind.toNat : Int) != 3) = true := by
      simp only [bne_iff_ne, ne_eq]
      intro e
      exact h3 (UInt8.toNat_inj.1 (show v.kind.toNat = 3 by omega))
    generalize (v.kind.toNat : Int) = z at *
    conv => whnf
    repeat' ((first | ((with_reducible refine y'r ?_ ?_); (· decide +kernel)) | ((with_reducible refine y'g ?_ ?_); (· exact ⟨_, rfl⟩)) | (with_reducible first | refine y'b ‹_› ?_ | refine y'n ‹_› ?_ | refine y'1 ‹_› ?_ | refine y'2 ‹_› ?_ | refine y'3 ?_ | refine y'4 ?_) | ((with_reducible refine y'n ?_ ?_); (· first | with_reducible assumption | exact decide_eq_true (by omega) | decide +kernel)) | (with_reducible first | refine y'n (y'7 ‹_› ‹_›) ?_ | refine y'v (y'8 ‹_› ‹_›) (fun s hs => ?_) | refine y'5 ‹_› ?_ | refine y'6 ‹_› ?_) | ((with_reducible apply y'o); (· first | exact g0 | exact g1)) | ((with_reducible refine y'p ?_ ?_); (· rfl)) | ((with_reducible refine y'q ?_ ?_); (· rfl)) | fail) <;> (conv => whnf))
    exact keepOf (v₀ := .t [.a (.int .i32 0), .a (.int .i64 120)]) [] [] rfl trivial rfl hK
theorem refTally1 (c : List Nat) (hc : Ct c) {K : V → Hp → Prop} (hK : K (.t [.a (.int .i32 (sumC c 6)), .a (.int .i64 0)]) []) :
    Go.Eng.Fn Tryd.prog ro 35 [.a (.str (bs (toldP c)))] [] K := by
  have hap : apC (encC c 6) = true := by rw [apC_tally, tallyP_enc hc]
  exact asTallyR (encC c 6) (by have := enc_le c; omega) (fun h => by rw [hap] at h; cases h) (fun _ => by rw [sumE_enc hc]; exact hK)
set_option maxHeartbeats 2000000 in
/-- sameRunes of a row with itself. -/
theorem sameR (L X Y : List Nat) (rs ss : List A) (n cap m cap2 : Nat) (mk mk2 : Bool) (hrs : rs = i32s (L ++ X)) (hss : ss = i32s (L ++ Y)) (hn : n = L.length) (hm : m = L.length) (hn9 : n ≤ 100000000) {K : V → Hp → Prop}
    (hK : K (.a (.bool true)) [.cells rs 21 mk, .cells ss 21 mk2]) :
    Go.Eng.Fn Tryd.prog ro 36 [.a (.slc 0 0 n cap), .a (.slc 1 0 m cap2)] [.cells rs 21 mk, .cells ss 21 mk2] K := by
  have hp := i32s_pl hrs
  have hq := i32s_pl hss
  obtain rfl : m = n := by omega
  have c0 : ((m : Int) != (m : Int)) = false := by simp
  have g0 := True.intro
  have g1 := True.intro
  refine Fn.weak ?_
  refine Fn.of 2 h36 rfl Tryd.func36 rfl (Nat.le_of_ble_eq_true rfl) ?_
  conv => whnf
  repeat' ((first | ((with_reducible refine y'r ?_ ?_); (· decide +kernel)) | ((with_reducible refine y'g ?_ ?_); (· exact ⟨_, rfl⟩)) | (with_reducible first | refine y'b ‹_› ?_ | refine y'n ‹_› ?_ | refine y'1 ‹_› ?_ | refine y'2 ‹_› ?_ | refine y'3 ?_ | refine y'4 ?_) | ((with_reducible refine y'n ?_ ?_); (· first | with_reducible assumption | exact decide_eq_true (by omega) | decide +kernel)) | (with_reducible first | refine y'n (y'7 ‹_› ‹_›) ?_ | refine y'v (y'8 ‹_› ‹_›) (fun s hs => ?_) | refine y'5 ‹_› ?_ | refine y'6 ‹_› ?_) | ((with_reducible apply y'o); (· first | exact g0 | exact g1)) | ((with_reducible refine y'p ?_ ?_); (· rfl)) | ((with_reducible refine y'q ?_ ?_); (· rfl)) | fail) <;> (conv => whnf))
  clear g0 g1
  refine loopx_of (fun k F H => ∃ i : Nat, i ≤ m ∧ k = m - i ∧ F = [(0, .a (.slc 0 0 m cap)), (1, .a (.slc 1 0 m cap2)), (5, .a (.int .i64 i))] ∧ H = [.cells rs 21 mk, .cells ss 21 mk2]) m ?_ ?_
  · exact Into.weak [0, 1] [(0, .a (.slc 0 0 m cap)), (1, .a (.slc 1 0 m cap2)), (5, .a (.int .i64 (0 : Nat)))] [.cells rs 21 mk, .cells ss 21 mk2] ⟨0, Nat.zero_le _, rfl, rfl, rfl⟩ ⟨rfl, rfl, rfl, trivial⟩ ⟨ren_pl hp _ _ _, ren_pl hq _ _ _, trivial⟩ (by simp [nodupb, baseb, Ob.okb, frmOk, V.okb, A.okb, hp.2, hq.2] <;> decide)
  · rintro k F H ⟨i, hi, rfl, rfl, rfl⟩
    have hw : IntKind.i64.wrap (↑i + 1) = ((i + 1 : Nat) : Int) := by rw [i64w (by omega) (by omega)]; rfl
    by_cases hin : i < m
    · have d1 : decide ((i : Int) < (m : Int)) = true := decide_eq_true (by omega)
      have d2 : decide (0 ≤ (i : Int) ∧ (i : Int) < (m : Int)) = true := decide_eq_true (by omega)
      obtain ⟨e, he⟩ : ∃ e, L[i]? = some e := ⟨_, List.getElem?_eq_getElem (by omega)⟩
      have g0 : rs[0 + (i : Int).toNat * Tryd.prog.types[21].size]? = some (.int .i32 (e : Int)) := by
        rw [Int.toNat_natCast, s21, Nat.zero_add, Nat.mul_one]
        exact i32s_get hrs (by rw [List.getElem?_append_left (by omega)]; exact he)
      have g1 : ss[0 + (i : Int).toNat * Tryd.prog.types[21].size]? = some (.int .i32 (e : Int)) := by
        rw [Int.toNat_natCast, s21, Nat.zero_add, Nat.mul_one]
        exact i32s_get hss (by rw [List.getElem?_append_left (by omega)]; exact he)
      have c1 : ((e : Int) != (e : Int)) = false := by simp
      conv => whnf
      repeat' ((first | ((with_reducible refine y'r ?_ ?_); (· decide +kernel)) | ((with_reducible refine y'g ?_ ?_); (· exact ⟨_, rfl⟩)) | (with_reducible first | refine y'b ‹_› ?_ | refine y'n ‹_› ?_ | refine y'1 ‹_› ?_ | refine y'2 ‹_› ?_ | refine y'3 ?_ | refine y'4 ?_) | ((with_reducible refine y'n ?_ ?_); (· first | with_reducible assumption | exact decide_eq_true (by omega) | decide +kernel)) | (with_reducible first | refine y'n (y'7 ‹_› ‹_›) ?_ | refine y'v (y'8 ‹_› ‹_›) (fun s hs => ?_) | refine y'5 ‹_› ?_ | refine y'6 ‹_› ?_) | ((with_reducible apply y'o); (· first | exact g0 | exact g1)) | ((with_reducible refine y'p ?_ ?_); (· rfl)) | ((with_reducible refine y'q ?_ ?_); (· rfl)) | fail) <;> (conv => whnf))
      exact ⟨m - (i + 1), by omega, Into.weak [0, 1] [(0, .a (.slc 0 0 m cap)), (1, .a (.slc 1 0 m cap2)), (5, .a (.int .i64 ((i + 1 : Nat) : Int)))] [.cells rs 21 mk, .cells ss 21 mk2] ⟨i + 1, by omega, rfl, rfl, rfl⟩ ⟨rfl, rfl, congrArg (fun z => some (V.a (.int .i64 z))) hw, trivial⟩ ⟨ren_pl hp _ _ _, ren_pl hq _ _ _, trivial⟩ (by simp [nodupb, baseb, Ob.okb, frmOk, V.okb, A.okb, hp.2, hq.2] <;> decide)⟩
    · have d1 : decide ((i : Int) < (m : Int)) = false := decide_eq_false (by omega)
      conv => whnf
      repeat' ((first | ((with_reducible refine y'r ?_ ?_); (· decide +kernel)) | ((with_reducible refine y'g ?_ ?_); (· exact ⟨_, rfl⟩)) | (with_reducible first | refine y'b ‹_› ?_ | refine y'n ‹_› ?_ | refine y'1 ‹_› ?_ | refine y'2 ‹_› ?_ | refine y'3 ?_ | refine y'4 ?_) | ((with_reducible refine y'n ?_ ?_); (· first | with_reducible assumption | exact decide_eq_true (by omega) | decide +kernel)) | (with_reducible first | refine y'n (y'7 ‹_› ‹_›) ?_ | refine y'v (y'8 ‹_› ‹_›) (fun s hs => ?_) | refine y'5 ‹_› ?_ | refine y'6 ‹_› ?_) | ((with_reducible apply y'o); (· first | exact g0 | exact g1)) | ((with_reducible refine y'p ?_ ?_); (· rfl)) | ((with_reducible refine y'q ?_ ?_); (· rfl)) | fail) <;> (conv => whnf))
      exact keepOf (v₀ := .a (.bool true)) [.cells rs 21 mk, .cells ss 21 mk2] [0, 1] rfl ⟨ren_pl hp _ _ _, ren_pl hq _ _ _, trivial⟩ (by simp [nodupb, baseb, Ob.okb, frmOk, V.okb, A.okb, hp.2, hq.2] <;> decide) hK
end
end Go.Proofs.YtimddbgnaeeggaaDoor.KD
namespace Go.Proofs.YtimddbgnaeeggaaDoor.KD
open Go.Eng
set_option maxRecDepth 100000
/-! ### A rune into a rising row. -/
def insR : List Nat → Nat → List Nat
  | [], r => [r]
  | x :: O, r => if x < r then x :: insR O r else if x = r then x :: O else r :: x :: O
def atR : List Nat → Nat → Nat
  | [], _ => 0
  | x :: O, r => if x < r then atR O r + 1 else 0
theorem atR_le (O : List Nat) (r : Nat) : atR O r ≤ O.length := by
  induction O with
  | nil => exact Nat.le_refl 0
  | cons x O ih =>
    unfold atR
    split
    · rw [List.length_cons]; omega
    · exact Nat.zero_le _
theorem atR_at {O : List Nat} {r i x : Nat} (hi : i ≤ atR O r) (hx : O[i]? = some x) : x < r ↔ i < atR O r := by
  induction O generalizing i with
  | nil => simp at hx
  | cons y O ih =>
    unfold atR at hi ⊢
    by_cases h : y < r
    · rw [if_pos h] at hi ⊢
      cases i with
      | zero => simp at hx; subst hx; simp [h]
      | succ i => rw [List.getElem?_cons_succ] at hx; rw [ih (by omega) hx]; omega
    · rw [if_neg h] at hi ⊢
      obtain rfl : i = 0 := by omega
      simp at hx; subst hx
      constructor
      · intro h'; exact absurd h' h
      · intro h'; exact absurd h' (Nat.lt_irrefl 0)
theorem insR_eq (O : List Nat) (r : Nat) : insR O r = if O[atR O r]? = some r then O else O.take (atR O r) ++ [r] ++ O.drop (atR O r) := by
  induction O with
  | nil => rfl
  | cons x O ih =>
    unfold insR atR
    by_cases h : x < r
    · rw [if_pos h, if_pos h, ih, List.getElem?_cons_succ, List.take_succ_cons, List.drop_succ_cons]
      split <;> rfl
    · rw [if_neg h, if_neg h, List.getElem?_cons_zero]
      by_cases h2 : x = r
      · rw [if_pos h2, if_pos (by rw [h2])]
      · rw [if_neg h2, if_neg (by simpa using h2)]; rfl
theorem insR_mem (O : List Nat) (r y : Nat) : y ∈ insR O r ↔ y ∈ O ∨ y = r := by
  induction O with
  | nil => simp [insR]
  | cons x O ih =>
    unfold insR
    by_cases h1 : x < r
    · rw [if_pos h1, List.mem_cons, ih, List.mem_cons, or_assoc]
    · rw [if_neg h1]
      by_cases h2 : x = r
      · rw [if_pos h2, ← h2]
        constructor
        · exact .inl
        · rintro (h | h)
          · exact h
          · simp [h]
      · rw [if_neg h2, List.mem_cons]; exact Or.comm
theorem insR_rise {O : List Nat} (h : Rise O) (r : Nat) : Rise (insR O r) := by
  induction O with
  | nil => exact List.pairwise_singleton _ _
  | cons x O ih =>
    have h' := List.pairwise_cons.1 h
    unfold insR
    by_cases h1 : x < r
    · rw [if_pos h1]
      refine List.pairwise_cons.2 ⟨fun y hy => ?_, ih h'.2⟩
      rcases (insR_mem O r y).1 hy with hy | hy
      · exact h'.1 y hy
      · omega
    · rw [if_neg h1]
      by_cases h2 : x = r
      · rw [if_pos h2]; exact h
      · rw [if_neg h2]
        refine List.pairwise_cons.2 ⟨fun y hy => ?_, h⟩
        rcases List.mem_cons.1 hy with rfl | hy
        · omega
        · have := h'.1 y hy; omega
def insL (L : List Nat) : List Nat := L.foldl insR []
theorem insL_snoc (L : List Nat) (r : Nat) : insL (L ++ [r]) = insR (insL L) r := by unfold insL; rw [List.foldl_append]; rfl
theorem insL_ok (L : List Nat) : Rise (insL L) ∧ ∀ y, y ∈ insL L ↔ y ∈ L := by
  have key : ∀ (L O : List Nat), Rise O → Rise (L.foldl insR O) ∧ ∀ y, y ∈ L.foldl insR O ↔ y ∈ O ∨ y ∈ L := by
    intro L
    induction L with
    | nil => exact fun O h => ⟨h, fun y => by simp⟩
    | cons r L ih =>
      intro O h
      obtain ⟨h1, h2⟩ := ih (insR O r) (insR_rise h r)
      refine ⟨h1, fun y => ?_⟩
      rw [List.foldl_cons, h2, insR_mem, List.mem_cons, or_assoc]
  obtain ⟨h1, h2⟩ := key L [] List.Pairwise.nil
  exact ⟨h1, fun y => by unfold insL; rw [h2]; simp⟩
theorem insL_len (L : List Nat) : (insL L).length ≤ L.length := by
  have key : ∀ (L O : List Nat), (L.foldl insR O).length ≤ O.length + L.length := by
    intro L
    induction L with
    | nil => exact fun O => Nat.le_refl _
    | cons r L ih =>
      intro O
      have h1 := ih (insR O r)
      have h2 : (insR O r).length ≤ O.length + 1 := by
        clear h1 ih
        induction O with
        | nil => exact Nat.le_refl 1
        | cons x O ih =>
          unfold insR
          split
          · simp only [List.length_cons]; omega
          · split <;> simp only [List.length_cons] <;> omega
      rw [List.foldl_cons, List.length_cons]; omega
  have := key L []
  unfold insL
  simpa using this
theorem insL_mg {A B : List Nat} (hA : Rise A) (hB : Rise B) : insL (A ++ B) = mg A B :=
  rise_ext (insL_ok _).1 (mg_rise hA hB) (fun y => by rw [(insL_ok _).2, mg_mem, List.mem_append])
/-! ### Rows of runes behind rows. -/
theorem i32_ins {cs new : List A} {L M y : List Nat} {n S : Nat} (hcs : cs = i32s (L ++ y)) (hnew : new = i32s M) (hn : n = L.length) (hS : S = 1) (hy : M.length ≤ y.length) :
    storeL cs (0 + n * S) new = i32s (L ++ M ++ y.drop M.length) := by
  subst hcs hnew hn hS
  rw [Nat.zero_add, Nat.mul_one, storeL_row _ _ _ (by rw [i32s_len, i32s_len, List.length_append]; omega), i32s_len]
  unfold i32s
  rw [← List.map_take, ← List.map_drop, ← List.map_append, ← List.map_append, List.take_left' rfl]
  congr 2
  rw [List.drop_append]
  simp
theorem i32_cat {cs new : List A} {L M y : List Nat} {n S c k : Nat} {z : A} (hcs : cs = i32s (L ++ y)) (hnew : new = i32s M) (hn : n = L.length) (hS : S = 1) (hz : z = .int .i32 0) :
    List.drop 0 (List.take (0 + n * S) cs) ++ new ++ repl [z] ((c - k) * S) = i32s (L ++ M ++ List.replicate (c - k) 0) := by
  subst hcs hnew hn hS hz
  rw [Nat.zero_add, Nat.mul_one, Nat.mul_one, List.drop_zero]
  unfold i32s
  rw [← List.map_take, List.take_left' rfl, List.map_append, List.map_append]
  simp [repl]
theorem i32_sub {cs : List A} {L y : List Nat} {n o S : Nat} (hcs : cs = i32s (L ++ y)) (hn : o + n ≤ L.length) (hS : S = 1) : List.drop o (List.take (o + n * S) cs) = i32s ((L.drop o).take n) := by
  subst hcs hS
  rw [Nat.mul_one]
  unfold i32s
  rw [← List.map_take, ← List.map_drop, List.take_append_of_le_length hn, List.drop_take, Nat.add_sub_cancel_left]
theorem rise_len : ∀ {L : List Nat} {b N : Nat}, Rise L → (∀ r ∈ L, b ≤ r ∧ r < N) → L.length ≤ N - b
  | [], b, N, _, _ => Nat.zero_le _
  | x :: L, b, N, h, hb => by
    have h' := List.pairwise_cons.1 h
    have hx := hb x (by simp)
    have := rise_len (b := x + 1) (N := N) h'.2 (fun r hr => ⟨h'.1 r hr, (hb r (by simp [hr])).2⟩)
    rw [List.length_cons]; omega
theorem insL_few {L : List Nat} {N : Nat} (h : ∀ r ∈ L, r < N) : (insL L).length ≤ N := by
  have := rise_len (b := 0) (N := N) (insL_ok L).1 (fun r hr => ⟨Nat.zero_le _, h r (((insL_ok L).2 r).1 hr)⟩)
  omega
end Go.Proofs.YtimddbgnaeeggaaDoor.KD
namespace Go.Proofs.YtimddbgnaeeggaaDoor.KD
open Go.Eng
set_option maxRecDepth 100000
section
variable {ro : Addr → A → Prop}
set_option maxHeartbeats 4000000 in
theorem rising1 (L X : List Nat) (rs : List A) (n cap : Nat) (mk : Bool) (hrs : rs = i32s (L ++ X)) (hn : n = L.length) (hn9 : n ≤ 70368744177664) (hL : ∀ r ∈ L, r < 1114112) {K : V → Hp → Prop}
    (hK : ∀ os Y m c mk', os = i32s (insL L ++ Y) → m = (insL L).length → c = m + Y.length → K (.a (.slc 1 0 m c)) [.cells rs 21 mk, .cells os 21 mk']) :
    Go.Eng.Fn Tryd.prog ro 67 [.a (.slc 0 0 n cap)] [.cells rs 21 mk] K := by
  have hp := i32s_pl hrs
  refine Fn.weak ?_
  refine Fn.of 1 (cutAt [10, 11, 12] h67) rfl Tryd.func67 rfl (Nat.le_of_ble_eq_true rfl) ?_
  conv => whnf
  skip
  refine loopx_of (fun k F H => ∃ (i m c : Nat) (bk : Bool) (Y : List Nat) (os : List A), i ≤ n ∧ k = n - i ∧ os = i32s (insL (L.take i) ++ Y) ∧ m = (insL (L.take i)).length ∧ c = m + Y.length ∧ F = [(0, .a (.slc 0 0 n cap)), (3, .a (.slc 1 0 m c)), (4, .a (.int .i64 i))] ∧ H = [.cells rs 21 mk, .cells os 21 bk]) n ?_ ?_
  · refine Into.ghost 1 [(0, .a (.slc 0 0 n cap)), (3, .a (.slc 1 0 0 0)), (4, .a (.int .i64 (0 : Nat)))] [.cells rs 21 mk, .cells [] 21 false] rfl ⟨rfl, rfl, rfl, trivial⟩ ⟨ung_pl hp.1 _ _ _, rfl, trivial⟩ (by simp [Ob.okb, frmOk, V.okb, A.okb, hp.2] <;> decide) ?_
    exact Into.weak [0, 1] _ [.cells rs 21 mk, .cells [] 21 false] ⟨0, 0, 0, false, [], [], Nat.zero_le _, rfl, i32s_nil.symm, rfl, rfl, rfl, rfl⟩ ⟨rfl, rfl, rfl, trivial⟩ ⟨ren_pl hp _ _ _, rfl, trivial⟩ (by simp [nodupb, baseb, Ob.okb, frmOk, V.okb, A.okb, hp.2] <;> decide)
  · rintro k F H ⟨i, m, c, bk, Y, os, hi, rfl, hos, hm, hc, rfl, rfl⟩
    have hq := i32s_pl hos
    have hol : os.length = c := by rw [hos, i32s_len, List.length_append, hc, hm]
    have hmf : m ≤ 1114112 := by rw [hm]; exact insL_few (fun r hr => hL r (List.mem_of_mem_take hr))
    by_cases hin : i < n
    · have d1 : decide ((i : Int) < (n : Int)) = true := decide_eq_true (by omega)
      obtain ⟨r, hr⟩ : ∃ r, L[i]? = some r := ⟨_, List.getElem?_eq_getElem (by omega)⟩
      have hts : insL (L.take (i + 1)) = insR (insL (L.take i)) r := by rw [List.take_add_one, hr]; exact insL_snoc _ _
      generalize insL (L.take i) = O at *
      obtain ⟨at_, hat⟩ : ∃ a, a = atR O r := ⟨_, rfl⟩
      have hal := atR_le O r
      rw [← hat, ← hm] at hal
      have g0 : rs[0 + (i : Int).toNat * Tryd.prog.types[21].size]? = some (.int .i32 (r : Int)) := by
        rw [Int.toNat_natCast, s21, Nat.zero_add, Nat.mul_one]
        exact i32s_get hrs (by rw [List.getElem?_append_left (by omega)]; exact hr)
      have d2 : decide (0 ≤ (i : Int) ∧ (i : Int) < (n : Int)) = true := decide_eq_true (by omega)
      have g1 := True.intro
      conv => whnf
      repeat' ((first | (with_reducible refine y'b ‹_› ?_) | fail) <;> (conv => whnf))
      refine loopx_of (fun q F H => ∃ a : Nat, a ≤ at_ ∧ q = at_ - a ∧ F = [(0, .a (.slc 0 0 n cap)), (3, .a (.slc 1 0 m c)), (4, .a (.int .i64 i)), (5, .a (.int .i64 a))] ∧ H = [.cells rs 21 mk, .cells os 21 bk]) at_ ?_ ?_
      · exact Into.weak [0, 1] [(0, .a (.slc 0 0 n cap)), (3, .a (.slc 1 0 m c)), (4, .a (.int .i64 i)), (5, .a (.int .i64 (0 : Nat)))] [.cells rs 21 mk, .cells os 21 bk] ⟨0, Nat.zero_le _, rfl, rfl, rfl⟩ ⟨rfl, rfl, rfl, rfl, trivial⟩ ⟨ren_pl hp _ _ _, ren_pl hq _ _ _, trivial⟩ (by simp [nodupb, baseb, Ob.okb, frmOk, V.okb, A.okb, hp.2, hq.2] <;> decide)
      · rintro q F H ⟨a, ha, rfl, rfl, rfl⟩
        have hwa : IntKind.i64.wrap (↑a + 1) = ((a + 1 : Nat) : Int) := by rw [i64w (by omega) (by omega)]; rfl
        have hwi : IntKind.i64.wrap (↑i + 1) = ((i + 1 : Nat) : Int) := by rw [i64w (by omega) (by omega)]; rfl
        by_cases hlt : a < at_
        · have d3 : decide ((a : Int) < (m : Int)) = true := decide_eq_true (by omega)
          have d4 : decide (0 ≤ (a : Int) ∧ (a : Int) < (m : Int)) = true := decide_eq_true (by omega)
          obtain ⟨x, hx⟩ : ∃ x, O[a]? = some x := ⟨_, List.getElem?_eq_getElem (by omega)⟩
          have hxr := atR_at (r := r) (by rw [← hat]; exact ha) hx
          rw [← hat] at hxr
          clear g1
          have g1 : os[0 + (a : Int).toNat * Tryd.prog.types[21].size]? = some (.int .i32 (x : Int)) := by
            rw [Int.toNat_natCast, s21, Nat.zero_add, Nat.mul_one]
            exact i32s_get hos (by rw [List.getElem?_append_left (by omega)]; exact hx)
          have d5 : decide ((x : Int) < (r : Int)) = true := decide_eq_true (by omega)
          conv => whnf
          repeat' ((first | ((with_reducible refine y'r ?_ ?_); (· decide +kernel)) | ((with_reducible refine y'g ?_ ?_); (· exact ⟨_, rfl⟩)) | (with_reducible first | refine y'b ‹_› ?_ | refine y'3 ?_) | ((with_reducible apply y'o); (· first | exact g0 | exact g1)) | fail) <;> (conv => whnf))
          exact ⟨at_ - (a + 1), by omega, Into.weak [0, 1] [(0, .a (.slc 0 0 n cap)), (3, .a (.slc 1 0 m c)), (4, .a (.int .i64 i)), (5, .a (.int .i64 ((a + 1 : Nat) : Int)))] [.cells rs 21 mk, .cells os 21 bk] ⟨a + 1, by omega, rfl, rfl, rfl⟩ ⟨rfl, rfl, rfl, congrArg (fun z => some (V.a (.int .i64 z))) hwa, trivial⟩ ⟨ren_pl hp _ _ _, ren_pl hq _ _ _, trivial⟩ (by simp [nodupb, baseb, Ob.okb, frmOk, V.okb, A.okb, hp.2, hq.2] <;> decide)⟩
        · obtain rfl : a = at_ := by omega
          have hie := insR_eq O r
          rw [← hat] at hie
          by_cases hor : O[a]? = some r
          · rw [if_pos hor] at hie
            obtain ⟨h1, h2⟩ := List.getElem?_eq_some_iff.1 hor
            have d3 : decide ((a : Int) < (m : Int)) = true := decide_eq_true (by omega)
            have d4 : decide (0 ≤ (a : Int) ∧ (a : Int) < (m : Int)) = true := decide_eq_true (by omega)
            obtain ⟨x, hx, hxr⟩ : ∃ x, O[a]? = some x ∧ x = r := ⟨r, hor, rfl⟩
            clear g1
            have g1 : os[0 + (a : Int).toNat * Tryd.prog.types[21].size]? = some (.int .i32 (x : Int)) := by
              rw [Int.toNat_natCast, s21, Nat.zero_add, Nat.mul_one]
              exact i32s_get hos (by rw [List.getElem?_append_left (by omega)]; exact hx)
            have d5 : decide ((x : Int) < (r : Int)) = false := decide_eq_false (by omega)
            have d6 : ((x : Int) == (r : Int)) = true := by rw [hxr]; simp
            conv => whnf
            repeat' ((first | ((with_reducible refine y'r ?_ ?_); (· decide +kernel)) | ((with_reducible refine y'g ?_ ?_); (· exact ⟨_, rfl⟩)) | (with_reducible first | refine y'b ‹_› ?_ | refine y'3 ?_) | ((with_reducible apply y'o); (· first | exact g0 | exact g1)) | fail) <;> (conv => whnf))
            exact ⟨n - (i + 1), by omega, Into.weak [0, 1] [(0, .a (.slc 0 0 n cap)), (3, .a (.slc 1 0 m c)), (4, .a (.int .i64 ((i + 1 : Nat) : Int)))] [.cells rs 21 mk, .cells os 21 bk] ⟨i + 1, m, c, bk, Y, os, by omega, rfl, by rw [hts, hie]; exact hos, by rw [hts, hie]; exact hm, hc, rfl, rfl⟩ ⟨rfl, rfl, congrArg (fun z => some (V.a (.int .i64 z))) hwi, trivial⟩ ⟨ren_pl hp _ _ _, ren_pl hq _ _ _, trivial⟩ (by simp [nodupb, baseb, Ob.okb, frmOk, V.okb, A.okb, hp.2, hq.2] <;> decide)⟩
          · rw [if_neg hor] at hie
            by_cases ham : a < m
            case' pos =>
              have d3 : decide ((a : Int) < (m : Int)) = true := decide_eq_true (by omega)
              have d4 : decide (0 ≤ (a : Int) ∧ (a : Int) < (m : Int)) = true := decide_eq_true (by omega)
              obtain ⟨x, hx⟩ : ∃ x, O[a]? = some x := ⟨_, List.getElem?_eq_getElem (by omega)⟩
              have hxr := atR_at (r := r) (by rw [← hat]; exact Nat.le_refl _) hx
              rw [← hat] at hxr
              have hxe : x ≠ r := fun h => hor (by rw [hx, h])
              clear g1
              have g1 : os[0 + (a : Int).toNat * Tryd.prog.types[21].size]? = some (.int .i32 (x : Int)) := by
                rw [Int.toNat_natCast, s21, Nat.zero_add, Nat.mul_one]
                exact i32s_get hos (by rw [List.getElem?_append_left (by omega)]; exact hx)
              have d5 : decide ((x : Int) < (r : Int)) = false := decide_eq_false (by omega)
              have d6 : ((x : Int) == (r : Int)) = false := by simp; omega
              conv => whnf
              repeat' ((first | ((with_reducible refine y'r ?_ ?_); (· decide +kernel)) | ((with_reducible refine y'g ?_ ?_); (· exact ⟨_, rfl⟩)) | (with_reducible first | refine y'b ‹_› ?_ | refine y'3 ?_) | ((with_reducible apply y'o); (· first | exact g0 | exact g1)) | fail) <;> (conv => whnf))
              clear g1 d3 d4 d5 d6
            case' neg =>
              have d3 : decide ((a : Int) < (m : Int)) = false := decide_eq_false (by omega)
              conv => whnf
              repeat' ((first | ((with_reducible refine y'r ?_ ?_); (· decide +kernel)) | ((with_reducible refine y'g ?_ ?_); (· exact ⟨_, rfl⟩)) | (with_reducible refine y'b ‹_› ?_) | fail) <;> (conv => whnf))
              clear g1 d3
            all_goals
              refine cutx_of (fun F H => ∃ gr : List A, gr = i32s ([] ++ []) ∧ F = [(0, .a (.slc 0 0 n cap)), (3, .a (.slc 1 0 m c)), (4, .a (.int .i64 i)), (5, .a (.int .i64 a)), (6, .a (.slc 2 0 0 0))] ∧ H = [.cells rs 21 mk, .cells os 21 bk, .cells gr 21 false]) ?_ ?_
              · refine Into.ghost 2 [(0, .a (.slc 0 0 n cap)), (3, .a (.slc 1 0 m c)), (4, .a (.int .i64 i)), (5, .a (.int .i64 a)), (6, .a (.slc 2 0 0 0))] [.cells rs 21 mk, .cells os 21 bk, .cells [] 21 false] rfl ⟨rfl, rfl, rfl, rfl, rfl, trivial⟩ ⟨ung_pl hp.1 _ _ _, ung_pl hq.1 _ _ _, rfl, trivial⟩ (by simp [Ob.okb, frmOk, V.okb, A.okb, hp.2, hq.2] <;> decide) ?_
                exact Into.weak [0, 1, 2] _ [.cells rs 21 mk, .cells os 21 bk, .cells [] 21 false] ⟨[], i32s_nil.symm, rfl, rfl⟩ ⟨rfl, rfl, rfl, rfl, rfl, trivial⟩ ⟨ren_pl hp _ _ _, ren_pl hq _ _ _, rfl, trivial⟩ (by simp [nodupb, baseb, Ob.okb, frmOk, V.okb, A.okb, hp.2, hq.2] <;> decide)
              rintro F H ⟨gr, hgr, rfl, rfl⟩
              have hgp := i32s_pl hgr
              have hgl : gr.length = 0 := by rw [hgr, i32s_len]; rfl
              have e0 : decide (0 ≤ (a : Int) ∧ (a : Int) ≤ (c : Int)) = true := decide_eq_true (by omega)
              have g1 := True.intro
              have ho0 : (if c = 0 then 0 else 0 + 0 * Tryd.prog.types[21].size) = 0 := by split <;> simp
              have ha0 : (a : Int).toNat - 0 = a := rfl
              conv => whnf
              repeat' ((first | (with_reducible refine y'b ‹_› ?_) | fail) <;> (conv => whnf))
              rw [ho0, ha0]
              refine y'n (decide_eq_true (by rw [s21, hol]; omega)) ?_
              obtain ⟨nw, hnw⟩ : ∃ nw, nw = List.drop 0 (List.take (0 + a * Tryd.prog.types[21].size) os) := ⟨_, rfl⟩
              have hnw2 : nw = i32s ((O.drop 0).take a) := by rw [hnw]; exact i32_sub hos (by omega) s21
              rw [List.drop_zero] at hnw2
              have hnl : nw.length = a := by rw [hnw2, i32s_len, List.length_take]; omega
              conv => whnf
              rw [← hnw]
              clear hnw
              refine y'c (fun h => ?_) (fun h => ?_)
              case' refine_1 =>
                have h' := of_decide_eq_true h
                conv => whnf
                refine y'n (decide_eq_true (by rw [s21, hnl, hgl]; omega)) ?_
                conv => whnf
                repeat' ((first | (with_reducible refine y'5 ‹_› ?_) | fail) <;> (conv => whnf))
                refine y'f (i32_ins (L := []) (y := []) hgr hnw2 rfl s21 (by rw [List.length_take]; simp; omega)) (fun xs hxs => ?_)
                conv => whnf
                skip
                have hxp := i32s_pl hxs
                refine cutx_of (fun F H => ∃ (q c2 : Nat) (b2 : Bool) (Y2 : List Nat) (xs : List A), xs = i32s (O.take a ++ Y2) ∧ q = a ∧ c2 = q + Y2.length ∧ F = [(0, .a (.slc 0 0 n cap)), (3, .a (.slc 1 0 m c)), (4, .a (.int .i64 i)), (5, .a (.int .i64 a)), (6, .a (.slc 2 0 q c2))] ∧ H = [.cells rs 21 mk, .cells os 21 bk, .cells xs 21 b2]) (Into.weak [0, 1, 2] [(0, .a (.slc 0 0 n cap)), (3, .a (.slc 1 0 m c)), (4, .a (.int .i64 i)), (5, .a (.int .i64 a)), (6, .a (.slc 2 0 (0 + a) (0)))] [.cells rs 21 mk, .cells os 21 bk, .cells xs 21 false] ⟨_, _, false, [], xs, (by rw [hxs]; simp), Nat.zero_add a, (by simp; omega), rfl, rfl⟩ ⟨rfl, rfl, rfl, rfl, rfl, trivial⟩ ⟨ren_pl hp _ _ _, ren_pl hq _ _ _, ren_pl hxp _ _ _, trivial⟩ (by simp [nodupb, baseb, Ob.okb, frmOk, V.okb, A.okb, hp.2, hq.2, hxp.2] <;> decide)) ?_
              case' refine_2 =>
                have h' := of_decide_eq_false h
                conv => whnf
                refine y'n (decide_eq_true (by rw [s21, b21, hgl]; omega)) ?_
                intro cap' hcap'
                conv => whnf
                repeat' ((first | (with_reducible refine y'5 ‹_› ?_) | fail) <;> (conv => whnf))
                refine y'f (i32_cat (L := []) (y := []) hgr hnw2 rfl s21 rfl) (fun xs hxs => ?_)
                conv => whnf
                skip
                have hxp := i32s_pl hxs
                refine cutx_of (fun F H => ∃ (q c2 : Nat) (b2 : Bool) (Y2 : List Nat) (xs : List A), xs = i32s (O.take a ++ Y2) ∧ q = a ∧ c2 = q + Y2.length ∧ F = [(0, .a (.slc 0 0 n cap)), (3, .a (.slc 1 0 m c)), (4, .a (.int .i64 i)), (5, .a (.int .i64 a)), (6, .a (.slc 2 0 q c2))] ∧ H = [.cells rs 21 mk, .cells os 21 bk, .cells xs 21 b2]) (Into.weak [0, 1, 3] [(0, .a (.slc 0 0 n cap)), (3, .a (.slc 1 0 m c)), (4, .a (.int .i64 i)), (5, .a (.int .i64 a)), (6, .a (.slc 2 0 (0 + a) (cap')))] [.cells rs 21 mk, .cells os 21 bk, .cells xs 21 false] ⟨_, _, false, (List.replicate (cap' - (0 + a)) 0), xs, (by rw [hxs]; simp), Nat.zero_add a, (by rw [List.length_replicate]; omega), rfl, rfl⟩ ⟨rfl, rfl, rfl, rfl, rfl, trivial⟩ ⟨ren_pl hp _ _ _, ren_pl hq _ _ _, ren_pl hxp _ _ _, trivial⟩ (by simp [nodupb, baseb, Ob.okb, frmOk, V.okb, A.okb, hp.2, hq.2, hxp.2] <;> decide)) ?_
              all_goals
                clear xs hxs hxp
                clear gr hgr hgp hgl nw hnw2 hnl
                rintro F H ⟨q, c2, b2, Y2, xs, hxs, hq2, hc2, rfl, rfl⟩
                have hxq := i32s_pl hxs
                have hxl : xs.length = c2 := by rw [hxs, i32s_len, List.length_append, List.length_take, hc2]; omega
                conv => whnf
                repeat' ((first | (with_reducible first | refine y'b ‹_› ?_ | refine y'3 ?_) | (with_reducible refine y'5 ‹_› ?_) | ((with_reducible apply y'o); (· first | exact g0 | exact g1)) | fail) <;> (conv => whnf))
                refine y'c (fun h => ?_) (fun h => ?_)
                case' refine_1 =>
                  have h' := of_decide_eq_true h
                  conv => whnf
                  refine y'n (decide_eq_true (by simp [s21]; omega)) ?_
                  conv => whnf
                  repeat' ((first | (with_reducible refine y'5 ‹_› ?_) | fail) <;> (conv => whnf))
                  refine y'f (i32_in hxs (by rw [List.length_take]; omega) s21 (by omega) (x := r) rfl) (fun xt hxt => ?_)
                  conv => whnf
                  skip
                  have hxp := i32s_pl hxt
                  refine cutx_of (fun F H => ∃ (q c2 : Nat) (b2 : Bool) (Y2 : List Nat) (xs : List A), xs = i32s ((O.take a ++ [r]) ++ Y2) ∧ q = a + 1 ∧ c2 = q + Y2.length ∧ F = [(0, .a (.slc 0 0 n cap)), (3, .a (.slc 1 0 m c)), (4, .a (.int .i64 i)), (5, .a (.int .i64 a)), (6, .a (.slc 2 0 q c2))] ∧ H = [.cells rs 21 mk, .cells os 21 bk, .cells xs 21 b2]) (Into.weak [0, 1, 2] [(0, .a (.slc 0 0 n cap)), (3, .a (.slc 1 0 m c)), (4, .a (.int .i64 i)), (5, .a (.int .i64 a)), (6, .a (.slc 2 0 (q + 1) (c2)))] [.cells rs 21 mk, .cells os 21 bk, .cells xt 21 b2] ⟨_, _, b2, Y2.tail, xt, hxt, (by omega), (by rw [List.length_tail]; omega), rfl, rfl⟩ ⟨rfl, rfl, rfl, rfl, rfl, trivial⟩ ⟨ren_pl hp _ _ _, ren_pl hq _ _ _, ren_pl hxp _ _ _, trivial⟩ (by simp [nodupb, baseb, Ob.okb, frmOk, V.okb, A.okb, hp.2, hq.2, hxp.2] <;> decide)) ?_
                case' refine_2 =>
                  have h' := of_decide_eq_false h
                  conv => whnf
                  refine y'n (decide_eq_true (by simp [s21, b21]; omega)) ?_
                  intro cap' hcap'
                  conv => whnf
                  repeat' ((first | (with_reducible refine y'5 ‹_› ?_) | fail) <;> (conv => whnf))
                  refine y'f (i32_new (c := cap') hxs (by rw [List.length_take]; omega) s21 rfl (x := r) rfl) (fun xt hxt => ?_)
                  conv => whnf
                  skip
                  have hxp := i32s_pl hxt
                  refine cutx_of (fun F H => ∃ (q c2 : Nat) (b2 : Bool) (Y2 : List Nat) (xs : List A), xs = i32s ((O.take a ++ [r]) ++ Y2) ∧ q = a + 1 ∧ c2 = q + Y2.length ∧ F = [(0, .a (.slc 0 0 n cap)), (3, .a (.slc 1 0 m c)), (4, .a (.int .i64 i)), (5, .a (.int .i64 a)), (6, .a (.slc 2 0 q c2))] ∧ H = [.cells rs 21 mk, .cells os 21 bk, .cells xs 21 b2]) (Into.weak [0, 1, 4] [(0, .a (.slc 0 0 n cap)), (3, .a (.slc 1 0 m c)), (4, .a (.int .i64 i)), (5, .a (.int .i64 a)), (6, .a (.slc 2 0 (q + 1) (cap')))] [.cells rs 21 mk, .cells os 21 bk, .cells xt 21 false] ⟨_, _, false, (List.replicate (cap' - (q + 1)) 0), xt, hxt, (by omega), (by rw [List.length_replicate]; omega), rfl, rfl⟩ ⟨rfl, rfl, rfl, rfl, rfl, trivial⟩ ⟨ren_pl hp _ _ _, ren_pl hq _ _ _, ren_pl hxp _ _ _, trivial⟩ (by simp [nodupb, baseb, Ob.okb, frmOk, V.okb, A.okb, hp.2, hq.2, hxp.2] <;> decide)) ?_
                all_goals
                  clear xt hxt hxp xs hxs hxq hxl hc2 hq2 h h'
                  rintro F H ⟨q, c2, b2, Y2, xs, hxs, hq2, hc2, rfl, rfl⟩
                  have hxq := i32s_pl hxs
                  have hxl : xs.length = c2 := by rw [hxs, i32s_len, List.length_append, List.length_append, List.length_take, hc2]; simp; omega
                  obtain ⟨off, hoff⟩ : ∃ off, off = (if c = a then 0 else 0 + a * Tryd.prog.types[21].size) := ⟨_, rfl⟩
                  have hof2 : off + (m - a) * Tryd.prog.types[21].size ≤ os.length ∧ List.drop off (List.take (off + (m - a) * Tryd.prog.types[21].size) os) = i32s (O.drop a) := by
                    rw [s21, Nat.mul_one] at hoff
                    by_cases hca : c = a
                    · rw [if_pos hca] at hoff
                      have hma : m - a = 0 := by omega
                      rw [hma, hoff]
                      exact ⟨by omega, by rw [show O.drop a = [] from List.drop_eq_nil_of_le (by omega), i32s_nil]; simp⟩
                    · rw [if_neg hca, Nat.zero_add] at hoff
                      rw [hoff]
                      refine ⟨by rw [s21, hol]; omega, ?_⟩
                      rw [i32_sub hos (by omega) s21, List.take_of_length_le (by rw [List.length_drop]; omega)]
                  have ha1 : (a : Int).toNat = a := rfl
                  have e1 : decide (0 ≤ (a : Int) ∧ (a : Int) ≤ (m : Int)) = true := decide_eq_true (by omega)
                  conv => whnf
                  repeat' ((first | (with_reducible refine y'b ‹_› ?_) | fail) <;> (conv => whnf))
                  rw [ha1, ← hoff]
                  refine y'n (decide_eq_true hof2.1) ?_
                  obtain ⟨nw, hnw⟩ : ∃ nw, nw = List.drop off (List.take (off + (m - a) * Tryd.prog.types[21].size) os) := ⟨_, rfl⟩
                  have hnw2 : nw = i32s (O.drop a) := hnw.trans hof2.2
                  have hnl : nw.length = m - a := by rw [hnw2, i32s_len, List.length_drop]; omega
                  conv => whnf
                  rw [← hnw]
                  clear hnw hof2 hoff ha1
                  refine y'c (fun h => ?_) (fun h => ?_)
                  · have h' := of_decide_eq_true h
                    conv => whnf
                    refine y'n (decide_eq_true (by rw [s21, hnl, hxl]; omega)) ?_
                    conv => whnf
                    repeat' ((first | (with_reducible refine y'5 ‹_› ?_) | fail) <;> (conv => whnf))
                    refine y'f (i32_ins (n := q) hxs hnw2 (by simp; omega) s21 (by rw [List.length_drop]; omega)) (fun xt hxt => ?_)
                    conv => whnf
                    skip
                    have hxp := i32s_pl hxt
                    exact ⟨n - (i + 1), by omega, Into.weak [0, 2] [(0, .a (.slc 0 0 n cap)), (3, .a (.slc 1 0 (q + (m - a)) c2)), (4, .a (.int .i64 ((i + 1 : Nat) : Int)))] [.cells rs 21 mk, .cells xt 21 b2] ⟨i + 1, _, _, b2, _, xt, by omega, rfl, (by rw [hts, hie]; exact hxt), (by rw [hts, hie]; simp; omega), (by simp; omega), rfl, rfl⟩ ⟨rfl, rfl, congrArg (fun z => some (V.a (.int .i64 z))) hwi, trivial⟩ ⟨ren_pl hp _ _ _, ren_pl hxp _ _ _, trivial⟩ (by simp [nodupb, baseb, Ob.okb, frmOk, V.okb, A.okb, hp.2, hxp.2] <;> decide)⟩
                  · have h' := of_decide_eq_false h
                    conv => whnf
                    refine y'n (decide_eq_true (by simp [s21, b21, hxl]; omega)) ?_
                    intro cap' hcap'
                    conv => whnf
                    repeat' ((first | (with_reducible refine y'5 ‹_› ?_) | fail) <;> (conv => whnf))
                    refine y'f (i32_cat (n := q) (c := cap') hxs hnw2 (by simp; omega) s21 rfl) (fun xt hxt => ?_)
                    conv => whnf
                    skip
                    have hxp := i32s_pl hxt
                    exact ⟨n - (i + 1), by omega, Into.weak [0, 3] [(0, .a (.slc 0 0 n cap)), (3, .a (.slc 1 0 (q + (m - a)) cap')), (4, .a (.int .i64 ((i + 1 : Nat) : Int)))] [.cells rs 21 mk, .cells xt 21 false] ⟨i + 1, _, _, false, _, xt, by omega, rfl, (by rw [hts, hie]; exact hxt), (by rw [hts, hie]; simp; omega), (by simp; omega), rfl, rfl⟩ ⟨rfl, rfl, congrArg (fun z => some (V.a (.int .i64 z))) hwi, trivial⟩ ⟨ren_pl hp _ _ _, ren_pl hxp _ _ _, trivial⟩ (by simp [nodupb, baseb, Ob.okb, frmOk, V.okb, A.okb, hp.2, hxp.2] <;> decide)⟩
    · have d1 : decide ((i : Int) < (n : Int)) = false := decide_eq_false (by omega)
      rw [show i = n by omega, List.take_of_length_le (by omega)] at hos hm
      have hk := hK os Y m c bk hos hm hc
      have g0 := True.intro
      have g1 := True.intro
      conv => whnf
      repeat' ((first | (with_reducible refine y'b ‹_› ?_) | fail) <;> (conv => whnf))
      exact keepOf (v₀ := .a (.slc 1 0 m c)) [.cells rs 21 mk, .cells os 21 bk] [0, 1] rfl ⟨ren_pl hp _ _ _, ren_pl hq _ _ _, trivial⟩ (by simp [nodupb, baseb, Ob.okb, frmOk, V.okb, A.okb, hp.2, hq.2] <;> decide) hk
end
end Go.Proofs.YtimddbgnaeeggaaDoor.KD
namespace Go.Proofs.YtimddbgnaeeggaaDoor.KD
open Go.Eng Go.Shelf Go.Lib
set_option maxRecDepth 100000
/-- The numbers of the tables' types and variables, by the shelf's own. -/
def rho8 : Ren := ⟨fun x => x, fun x => match x with
  | 5 => 5
  | 119 => 165
  | 138 => 167
  | 139 => 168
  | _ => 0, fun x => match x with
  | 3 => 1
  | 4 => 2
  | _ => 0⟩
theorem types8 : U8Types Tryd.prog rho8 := ⟨by kernel_rfl, by kernel_rfl, by kernel_rfl, by kernel_rfl⟩
theorem extra8 : U8Extra Tryd.prog rho8 := ⟨by kernel_rfl, by kernel_rfl, by kernel_rfl, by kernel_rfl, by kernel_rfl, by kernel_rfl, by kernel_rfl⟩
theorem tabs_of {W : World} (hL : laidMetH Tryd.prog Rows.kindsLatticeRow.laid W) : Tabs (roOf W) := by
  have h : laidMet Tryd.prog Rows.kindsLatticeRow.laid W := hL
  have hT : Utf8Tabs 1 2 W := utf8Tabs_of_readsT types8 extra8 (laidMet.reads h (.tail _ (.head _))) (laidMet.reads h (.head _))
  exact ⟨fun c hc => ⟨trivial, hT.1 c hc⟩, fun i hi => ⟨trivial, (hT.2 i hi).1⟩, fun i hi => ⟨trivial, (hT.2 i hi).2⟩⟩
end Go.Proofs.YtimddbgnaeeggaaDoor.KD
namespace Go.Proofs.YtimddbgnaeeggaaDoor.KD
open Go.Eng
set_option maxRecDepth 100000
/-! ### Runes plainly. -/
/-- A row of runes, as they come. -/
@[irreducible] def z32 (Z : List Int) : List A := Z.map fun z => .int .i32 z
theorem z32_len (Z : List Int) : (z32 Z).length = Z.length := by unfold z32; simp
theorem z32_append (Z Y : List Int) : z32 (Z ++ Y) = z32 Z ++ z32 Y := by unfold z32; simp
theorem z32_pl (Z : List Int) : Pl (z32 Z) := by
  unfold z32
  refine ⟨fun δ => ?_, fun n => ?_⟩
  · rw [List.map_map]; rfl
  · rw [List.all_map]; exact List.all_eq_true.2 fun _ _ => rfl
theorem z32_get {Z : List Int} {i : Nat} {z : Int} (h : Z[i]? = some z) : (z32 Z)[i]? = some (.int .i32 z) := by unfold z32; simp [h]
theorem z32_i32 (L : List Nat) : z32 (L.map Int.ofNat) = i32s L := by unfold z32 i32s; rw [List.map_map]; rfl
/-- What reads as the row of these runes. -/
structure Rz (Z : List Int) (cs : List A) : Prop where
  pl : Pl cs
  get : ∀ (i : Nat) (z : Int), Z[i]? = some z → cs[i]? = some (A.int .i32 z)
theorem Rz.of {Z : List Int} {x : List A} (h : Pl x) : Rz Z (z32 Z ++ x) := by
  refine ⟨⟨fun δ => ?_, fun n => ?_⟩, fun i z hz => ?_⟩
  · rw [List.map_append, (z32_pl Z).1, h.1]
  · rw [List.all_append, (z32_pl Z).2, h.2]; rfl
  · have hi := (List.getElem?_eq_some_iff.1 hz).1
    rw [List.getElem?_append_left (by rw [z32_len]; exact hi)]
    exact z32_get hz
/-- The set of runes of a list, or none: what Runes answers. -/
def allV (Z : List Int) : Bool := Z.all vrI
theorem allV_nat {Z : List Int} (h : allV Z = true) : ∃ L : List Nat, Z = L.map Int.ofNat ∧ AllV L := by
  induction Z with
  | nil => exact ⟨[], rfl, fun r hr => nomatch hr⟩
  | cons z Z ih =>
    unfold allV at h
    rw [List.all_cons, Bool.and_eq_true] at h
    obtain ⟨L, e, hL⟩ := ih h.2
    have h1 := h.1
    unfold vrI at h1
    rw [Bool.and_eq_true, decide_eq_true_eq, decide_eq_true_eq] at h1
    refine ⟨z.toNat :: L, ?_, fun r hr => ?_⟩
    · rw [List.map_cons, ← e]
      congr 1
      exact (Int.toNat_of_nonneg h1.1).symm
    · rcases List.mem_cons.1 hr with rfl | hr
      · exact h1.2
      · exact hL r hr
theorem rise_insL {O : List Nat} (h : Rise O) : insL O = O := rise_ext (insL_ok _).1 h (fun y => (insL_ok _).2 y)
theorem mg_one {O : List Nat} (h : Rise O) (r : Nat) : mg O [r] = insR O r := by
  have h1 : Rise [r] := List.pairwise_singleton _ _
  rw [← insL_mg h h1, insL_snoc, rise_insL h]
theorem flat_insR (O : List Nat) (r : Nat) : (flat O).length ≤ (flat (insR O r)).length := by
  induction O with
  | nil => rw [flat_nil]; exact Nat.zero_le _
  | cons x O ih =>
    unfold insR
    split
    · rw [flat_clen, flat_clen]; omega
    · split
      · exact Nat.le_refl _
      · rw [flat_clen r]; omega
theorem flat_insL_take (L : List Nat) (i : Nat) : (flat (insL (L.take i))).length ≤ (flat (insL L)).length := by
  have key : ∀ (M N : List Nat), (flat (insL N)).length ≤ (flat (insL (N ++ M))).length := by
    intro M
    induction M with
    | nil => intro N; rw [List.append_nil]; exact Nat.le_refl _
    | cons r M ih =>
      intro N
      have h1 := ih (N ++ [r])
      have h2 := flat_insR (insL N) r
      rw [← insL_snoc] at h2
      rw [List.append_assoc] at h1
      exact Nat.le_trans h2 h1
  have := key (L.drop i) (L.take i)
  rwa [List.take_append_drop] at this
/-- What Runes answers: the value, and the error. -/
def rnO (Z : List Int) : List UInt8 × Int :=
  if allV Z = true then if (flat (insL (Z.map Int.toNat))).length < 40 then (4 :: flat (insL (Z.map Int.toNat)), 0) else ([], 82) else ([], 1)
theorem map_toNat (L : List Nat) : (L.map Int.ofNat).map Int.toNat = L := by
  rw [List.map_map]
  exact (List.map_congr_left (fun a _ => rfl)).trans (List.map_id L)
theorem rnO_nat {L : List Nat} (hL : AllV L) : rnO (L.map Int.ofNat) = if (flat (insL L)).length < 40 then (4 :: flat (insL L), 0) else ([], 82) := by
  have ha : allV (L.map Int.ofNat) = true := by
    unfold allV
    rw [List.all_map, List.all_eq_true]
    intro r hr
    show vrI (r : Int) = true
    rw [vrI_nat]
    exact decide_eq_true (hL r hr)
  unfold rnO
  rw [if_pos ha, map_toNat]
theorem rnO_arg {Z : List Int} (h : allV Z = false) : rnO Z = ([], 1) := by
  unfold rnO
  rw [if_neg (by rw [h]; exact Bool.false_ne_true)]
theorem insL_allV {L : List Nat} (h : AllV L) : AllV (insL L) := fun r hr => h r ((insL_ok L).2 r |>.1 hr)
/-- The answer is a value, or none at all. -/
theorem rnO_cases (Z : List Int) : (∃ L, AllV L ∧ Rise L ∧ (Va.runes L).ok ∧ rnO Z = ((Va.runes L).bytes, 0)) ∨ ((rnO Z).1 = [] ∧ (rnO Z).2 ≠ 0) := by
  by_cases h : allV Z = true
  · obtain ⟨L, rfl, hL⟩ := allV_nat h
    rw [rnO_nat hL]
    by_cases hl : (flat (insL L)).length < 40
    · rw [if_pos hl]
      exact .inl ⟨insL L, insL_allV hL, (insL_ok L).1, ⟨insL_allV hL, (insL_ok L).1, by omega⟩, rfl⟩
    · rw [if_neg hl]
      exact .inr ⟨rfl, by decide⟩
  · rw [rnO_arg (by simpa using h)]
    exact .inr ⟨rfl, by decide⟩
end Go.Proofs.YtimddbgnaeeggaaDoor.KD
namespace Go.Proofs.YtimddbgnaeeggaaDoor.KD
open Go.Eng
set_option maxRecDepth 100000
theorem encode_bs {r : Nat} (h : vr r) : Utf8.encode (r : Int) = bs (enc r) := by
  have hv : Utf8.valid (r : Int) = true := by rw [valid_vr]; exact h
  unfold Utf8.encode enc
  rw [if_pos hv, Int.toNat_natCast]
  simp only []
  by_cases h1 : r < 128
  · rw [if_pos h1, if_pos h1]; rfl
  by_cases h2 : r < 2048
  · rw [if_neg h1, if_pos h2, if_neg h1, if_pos h2]; rfl
  by_cases h3 : r < 65536
  · rw [if_neg h1, if_neg h2, if_pos h3, if_neg h1, if_neg h2, if_pos h3]; rfl
  · rw [if_neg h1, if_neg h2, if_neg h3, if_neg h1, if_neg h2, if_neg h3]; rfl
section
variable {ro : Addr → A → Prop}
set_option maxHeartbeats 400000 in
theorem valid1 (r : Int) {K : V → Hp → Prop} (hK : K (.a (.bool (vrI r))) []) : Go.Eng.Fn Tryd.prog ro 64 [.a (.int .i32 r)] [] K := by
  have key : ∀ b, b = vrI r → K (.a (.bool b)) [] := fun b hb => by rw [hb]; exact hK
  have g0 := True.intro
  refine Fn.weak ?_
  refine Fn.of_code (gOf []) Tryd.func64 rfl (Nat.le_of_ble_eq_true rfl) ?_
  by_cases h0 : 0 ≤ r
  · have c0 : decide (0 ≤ r) = true := decide_eq_true h0
    by_cases h2 : r < 55296
    · have c2 : decide (r < 55296) = true := decide_eq_true h2
      conv => whnf
      repeat' ((first | ((with_reducible refine y'r ?_ ?_); (· decide +kernel)) | ((with_reducible refine y'g ?_ ?_); (· exact ⟨_, rfl⟩)) | (with_reducible first | refine y'b ‹_› ?_ | refine y'n ‹_› ?_ | refine y'1 ‹_› ?_ | refine y'2 ‹_› ?_ | refine y'3 ?_ | refine y'4 ?_) | ((with_reducible refine y'n ?_ ?_); (· first | with_reducible assumption | exact decide_eq_true (by omega) | decide +kernel)) | (with_reducible first | refine y'n (y'7 ‹_› ‹_›) ?_ | refine y'v (y'8 ‹_› ‹_›) (fun s hs => ?_) | refine y'5 ‹_› ?_ | refine y'6 ‹_› ?_) | ((with_reducible apply y'o); (· exact g0)) | ((with_reducible refine y'p ?_ ?_); (· rfl)) | ((with_reducible refine y'q ?_ ?_); (· rfl)) | fail) <;> (conv => whnf))
      exact keepOf (v₀ := .a (.bool true)) [] [] rfl trivial rfl (key _ (by unfold vrI; rw [decide_eq_true h0, decide_eq_true (by unfold vr; omega)]; rfl))
    · have c2 : decide (r < 55296) = false := decide_eq_false h2
      by_cases h3 : 57343 < r
      · have c3 : decide (57343 < r) = true := decide_eq_true h3
        by_cases h1 : r ≤ 1114111
        · have c1 : decide (r ≤ 1114111) = true := decide_eq_true h1
          conv => whnf
          repeat' ((first | ((with_reducible refine y'r ?_ ?_); (· decide +kernel)) | ((with_reducible refine y'g ?_ ?_); (· exact ⟨_, rfl⟩)) | (with_reducible first | refine y'b ‹_› ?_ | refine y'n ‹_› ?_ | refine y'1 ‹_› ?_ | refine y'2 ‹_› ?_ | refine y'3 ?_ | refine y'4 ?_) | ((with_reducible refine y'n ?_ ?_); (· first | with_reducible assumption | exact decide_eq_true (by omega) | decide +kernel)) | (with_reducible first | refine y'n (y'7 ‹_› ‹_›) ?_ | refine y'v (y'8 ‹_› ‹_›) (fun s hs => ?_) | refine y'5 ‹_› ?_ | refine y'6 ‹_› ?_) | ((with_reducible apply y'o); (· exact g0)) | ((with_reducible refine y'p ?_ ?_); (· rfl)) | ((with_reducible refine y'q ?_ ?_); (· rfl)) | fail) <;> (conv => whnf))
          exact keepOf (v₀ := .a (.bool true)) [] [] rfl trivial rfl (key _ (by unfold vrI; rw [decide_eq_true h0, decide_eq_true (by unfold vr; omega)]; rfl))
        · have c1 : decide (r ≤ 1114111) = false := decide_eq_false h1
          conv => whnf
          repeat' ((first | ((with_reducible refine y'r ?_ ?_); (· decide +kernel)) | ((with_reducible refine y'g ?_ ?_); (· exact ⟨_, rfl⟩)) | (with_reducible first | refine y'b ‹_› ?_ | refine y'n ‹_› ?_ | refine y'1 ‹_› ?_ | refine y'2 ‹_› ?_ | refine y'3 ?_ | refine y'4 ?_) | ((with_reducible refine y'n ?_ ?_); (· first | with_reducible assumption | exact decide_eq_true (by omega) | decide +kernel)) | (with_reducible first | refine y'n (y'7 ‹_› ‹_›) ?_ | refine y'v (y'8 ‹_› ‹_›) (fun s hs => ?_) | refine y'5 ‹_› ?_ | refine y'6 ‹_› ?_) | ((with_reducible apply y'o); (· exact g0)) | ((with_reducible refine y'p ?_ ?_); (· rfl)) | ((with_reducible refine y'q ?_ ?_); (· rfl)) | fail) <;> (conv => whnf))
          exact keepOf (v₀ := .a (.bool false)) [] [] rfl trivial rfl (key _ (by unfold vrI; rw [decide_eq_true h0, decide_eq_false (by unfold vr; omega)]; rfl))
      · have c3 : decide (57343 < r) = false := decide_eq_false h3
        conv => whnf
        repeat' ((first | ((with_reducible refine y'r ?_ ?_); (· decide +kernel)) | ((with_reducible refine y'g ?_ ?_); (· exact ⟨_, rfl⟩)) | (with_reducible first | refine y'b ‹_› ?_ | refine y'n ‹_› ?_ | refine y'1 ‹_› ?_ | refine y'2 ‹_› ?_ | refine y'3 ?_ | refine y'4 ?_) | ((with_reducible refine y'n ?_ ?_); (· first | with_reducible assumption | exact decide_eq_true (by omega) | decide +kernel)) | (with_reducible first | refine y'n (y'7 ‹_› ‹_›) ?_ | refine y'v (y'8 ‹_› ‹_›) (fun s hs => ?_) | refine y'5 ‹_› ?_ | refine y'6 ‹_› ?_) | ((with_reducible apply y'o); (· exact g0)) | ((with_reducible refine y'p ?_ ?_); (· rfl)) | ((with_reducible refine y'q ?_ ?_); (· rfl)) | fail) <;> (conv => whnf))
        exact keepOf (v₀ := .a (.bool false)) [] [] rfl trivial rfl (key _ (by unfold vrI; rw [decide_eq_true h0, decide_eq_false (by unfold vr; omega)]; rfl))
  · have c0 : decide (0 ≤ r) = false := decide_eq_false h0
    have c3 : decide (57343 < r) = false := decide_eq_false (by omega)
    conv => whnf
    repeat' ((first | ((with_reducible refine y'r ?_ ?_); (· decide +kernel)) | ((with_reducible refine y'g ?_ ?_); (· exact ⟨_, rfl⟩)) | (with_reducible first | refine y'b ‹_› ?_ | refine y'n ‹_› ?_ | refine y'1 ‹_› ?_ | refine y'2 ‹_› ?_ | refine y'3 ?_ | refine y'4 ?_) | ((with_reducible refine y'n ?_ ?_); (· first | with_reducible assumption | exact decide_eq_true (by omega) | decide +kernel)) | (with_reducible first | refine y'n (y'7 ‹_› ‹_›) ?_ | refine y'v (y'8 ‹_› ‹_›) (fun s hs => ?_) | refine y'5 ‹_› ?_ | refine y'6 ‹_› ?_) | ((with_reducible apply y'o); (· exact g0)) | ((with_reducible refine y'p ?_ ?_); (· rfl)) | ((with_reducible refine y'q ?_ ?_); (· rfl)) | fail) <;> (conv => whnf))
    exact keepOf (v₀ := .a (.bool false)) [] [] rfl trivial rfl (key _ (by unfold vrI; rw [decide_eq_false h0]; rfl))
set_option maxHeartbeats 4000000 in
theorem ownRunes (hT : Tabs ro) (Z : List Int) (cs : List A) (n cap : Nat) (mk : Bool) (hz : Rz Z cs) (hn : n = Z.length) (hn9 : n ≤ 9223372036854775807) {K : V → Hp → Prop}
    (hK : K (.t [.a (.str (bs (rnO Z).1)), .a (.int .i64 (rnO Z).2)]) [.cells cs 21 mk]) :
    Go.Eng.Fn Tryd.prog ro 37 [.a (.slc 0 0 n cap)] [.cells cs 21 mk] K := by
  have hp := hz.pl
  have hs21 : Tryd.prog.types[21].size = 1 := rfl
  have g0 := True.intro
  refine Fn.weak ?_
  refine Fn.of 1 (gOf []) rfl Tryd.func37 rfl (Nat.le_of_ble_eq_true rfl) ?_
  conv => whnf
  repeat' ((first | ((with_reducible refine y'r ?_ ?_); (· decide +kernel)) | ((with_reducible refine y'g ?_ ?_); (· exact ⟨_, rfl⟩)) | (with_reducible first | refine y'b ‹_› ?_ | refine y'n ‹_› ?_ | refine y'1 ‹_› ?_ | refine y'2 ‹_› ?_ | refine y'3 ?_ | refine y'4 ?_) | ((with_reducible refine y'n ?_ ?_); (· first | with_reducible assumption | exact decide_eq_true (by omega) | decide +kernel)) | (with_reducible first | refine y'n (y'7 ‹_› ‹_›) ?_ | refine y'v (y'8 ‹_› ‹_›) (fun s hs => ?_) | refine y'5 ‹_› ?_ | refine y'6 ‹_› ?_) | ((with_reducible apply y'o); (· exact g0)) | ((with_reducible refine y'p ?_ ?_); (· rfl)) | ((with_reducible refine y'q ?_ ?_); (· rfl)) | fail) <;> (conv => whnf))
  refine loopx_of (fun k F H => ∃ i : Nat, i ≤ n ∧ k = n - i ∧ allV (Z.take i) = true ∧ F = [(0, .a (.slc 0 0 n cap)), (9, .a (.slc 0 0 n cap)), (10, .a (.int .i64 n)), (11, .a (.int .i64 i))] ∧ H = [.cells cs 21 mk]) n ?_ ?_
  · exact Into.weak [0] _ [.cells cs 21 mk] ⟨0, Nat.zero_le _, rfl, rfl, rfl, rfl⟩ ⟨rfl, rfl, rfl, rfl, trivial⟩ ⟨ren_pl hp _ _ _, trivial⟩ (by simp [nodupb, baseb, Ob.okb, frmOk, V.okb, A.okb, hp.2] <;> decide)
  · rintro k F H ⟨i, hi, rfl, hv, rfl, rfl⟩
    by_cases hin : i < n
    · have d1 : decide ((i : Int) < (n : Int)) = true := decide_eq_true (by omega)
      have d2 : decide (0 ≤ (i : Int) ∧ (i : Int) < (n : Int)) = true := decide_eq_true (by omega)
      have hwi : IntKind.i64.wrap ((i : Int) + 1) = ((i + 1 : Nat) : Int) := by rw [i64w (by omega) (by omega)]; rfl
      obtain ⟨z, hzi⟩ : ∃ z, Z[i]? = some z := ⟨_, List.getElem?_eq_getElem (by omega)⟩
      clear g0
      have g0 : cs[0 + (i : Int).toNat * Tryd.prog.types[21].size]? = some (.int .i32 z) := by rw [Int.toNat_natCast, hs21, Nat.zero_add, Nat.mul_one]; exact hz.get i z hzi
      have kv := @valid1 ro z
      have htk : Z.take (i + 1) = Z.take i ++ [z] := by rw [List.take_add_one, hzi]; rfl
      obtain ⟨b, hb⟩ : ∃ b, b = vrI z := ⟨_, rfl⟩
      rw [← hb] at kv
      cases b with
      | true =>
        conv => whnf
        repeat' ((first | ((with_reducible refine y'r ?_ ?_); (· decide +kernel)) | ((with_reducible refine y'g ?_ ?_); (· exact ⟨_, rfl⟩)) | (with_reducible first | refine y'b ‹_› ?_ | refine y'n ‹_› ?_ | refine y'1 ‹_› ?_ | refine y'2 ‹_› ?_ | refine y'3 ?_ | refine y'4 ?_) | ((with_reducible refine y'n ?_ ?_); (· first | with_reducible assumption | exact decide_eq_true (by omega) | decide +kernel)) | (with_reducible first | refine y'n (y'7 ‹_› ‹_›) ?_ | refine y'v (y'8 ‹_› ‹_›) (fun s hs => ?_) | refine y'5 ‹_› ?_ | refine y'6 ‹_› ?_) | ((with_reducible apply y'o); (· exact g0)) | ((with_reducible refine y'p ?_ ?_); (· rfl)) | ((with_reducible refine y'q ?_ ?_); (· rfl)) | (refine Fn.frame [] (by rfl) (by exact trivial) (by rfl) (kv ?_)) | fail) <;> (conv => whnf))
        exact ⟨n - (i + 1), by omega, Into.weak [0] [(0, .a (.slc 0 0 n cap)), (9, .a (.slc 0 0 n cap)), (10, .a (.int .i64 n)), (11, .a (.int .i64 ((i + 1 : Nat) : Int)))] [.cells cs 21 mk] ⟨i + 1, by omega, rfl, by rw [htk]; unfold allV at hv ⊢; rw [List.all_append, hv, List.all_cons, ← hb]; rfl, rfl, rfl⟩ ⟨rfl, rfl, rfl, congrArg (fun z => some (V.a (.int .i64 z))) hwi, trivial⟩ ⟨ren_pl hp _ _ _, trivial⟩ (by simp [nodupb, baseb, Ob.okb, frmOk, V.okb, A.okb, hp.2] <;> decide)⟩
      | false =>
        have hno : allV Z = false := by
          cases h : allV Z with
          | false => rfl
          | true =>
            unfold allV at h
            have := List.all_eq_true.1 h z (List.mem_of_getElem? hzi)
            rw [← hb] at this; cases this
        rw [rnO_arg hno] at hK
        conv => whnf
        repeat' ((first | ((with_reducible refine y'r ?_ ?_); (· decide +kernel)) | ((with_reducible refine y'g ?_ ?_); (· exact ⟨_, rfl⟩)) | (with_reducible first | refine y'b ‹_› ?_ | refine y'n ‹_› ?_ | refine y'1 ‹_› ?_ | refine y'2 ‹_› ?_ | refine y'3 ?_ | refine y'4 ?_) | ((with_reducible refine y'n ?_ ?_); (· first | with_reducible assumption | exact decide_eq_true (by omega) | decide +kernel)) | (with_reducible first | refine y'n (y'7 ‹_› ‹_›) ?_ | refine y'v (y'8 ‹_› ‹_›) (fun s hs => ?_) | refine y'5 ‹_› ?_ | refine y'6 ‹_› ?_) | ((with_reducible apply y'o); (· exact g0)) | ((with_reducible refine y'p ?_ ?_); (· rfl)) | ((with_reducible refine y'q ?_ ?_); (· rfl)) | (refine Fn.frame [] (by rfl) (by exact trivial) (by rfl) (kv ?_)) | fail) <;> (conv => whnf))
        exact keepOf (v₀ := .t [.a (.str (bs [])), .a (.int .i64 1)]) [.cells cs 21 mk] [0] rfl ⟨ren_pl hp _ _ _, trivial⟩ (by simp [nodupb, baseb, Ob.okb, frmOk, V.okb, E.okb, A.okb, hp.2] <;> decide) hK
    · have d1 : decide ((i : Int) < (n : Int)) = false := decide_eq_false (by omega)
      rw [List.take_of_length_le (by omega)] at hv
      obtain ⟨L, rfl, hL⟩ := allV_nat hv
      rw [rnO_nat hL] at hK
      rw [List.length_map] at hn
      have g0 := True.intro
      conv => whnf
      repeat' ((first | ((with_reducible refine y'r ?_ ?_); (· decide +kernel)) | ((with_reducible refine y'g ?_ ?_); (· exact ⟨_, rfl⟩)) | (with_reducible first | refine y'b ‹_› ?_ | refine y'n ‹_› ?_ | refine y'1 ‹_› ?_ | refine y'2 ‹_› ?_ | refine y'3 ?_ | refine y'4 ?_) | ((with_reducible refine y'n ?_ ?_); (· first | with_reducible assumption | exact decide_eq_true (by omega) | decide +kernel)) | (with_reducible first | refine y'n (y'7 ‹_› ‹_›) ?_ | refine y'v (y'8 ‹_› ‹_›) (fun s hs => ?_) | refine y'5 ‹_› ?_ | refine y'6 ‹_› ?_) | ((with_reducible apply y'o); (· exact g0)) | ((with_reducible refine y'p ?_ ?_); (· rfl)) | ((with_reducible refine y'q ?_ ?_); (· rfl)) | fail) <;> (conv => whnf))
      refine loopx_of (fun k F H => ∃ (i : Nat) (s : ByteArray), i ≤ n ∧ k = n - i ∧ s = bs (flat (insL (L.take i))) ∧ (flat (insL (L.take i))).length < 40 ∧ F = [(0, .a (.slc 0 0 n cap)), (6, .a (.str s)), (19, .a (.slc 0 0 n cap)), (20, .a (.int .i64 n)), (21, .a (.int .i64 i))] ∧ H = [.cells cs 21 mk]) n ?_ ?_
      · exact Into.weak [0] [(0, .a (.slc 0 0 n cap)), (6, .a (.str (bs []))), (19, .a (.slc 0 0 n cap)), (20, .a (.int .i64 n)), (21, .a (.int .i64 (0 : Nat)))] [.cells cs 21 mk] ⟨0, bs [], Nat.zero_le _, rfl, by rw [List.take_zero, show insL [] = [] from rfl, flat_nil], by rw [List.take_zero, show insL [] = [] from rfl, flat_nil]; decide, rfl, rfl⟩ ⟨rfl, rfl, rfl, rfl, rfl, trivial⟩ ⟨ren_pl hp _ _ _, trivial⟩ (by simp [nodupb, baseb, Ob.okb, frmOk, V.okb, A.okb, hp.2] <;> decide)
      · clear hi hv d1 hin i
        rintro k F H ⟨i, s, hi, rfl, hs, hsl, rfl, rfl⟩
        by_cases hin : i < n
        · have d1 : decide ((i : Int) < (n : Int)) = true := decide_eq_true (by omega)
          have d2 : decide (0 ≤ (i : Int) ∧ (i : Int) < (n : Int)) = true := decide_eq_true (by omega)
          have hwi : IntKind.i64.wrap ((i : Int) + 1) = ((i + 1 : Nat) : Int) := by rw [i64w (by omega) (by omega)]; rfl
          obtain ⟨r, hri⟩ : ∃ r, L[i]? = some r := ⟨_, List.getElem?_eq_getElem (by omega)⟩
          have hvr : vr r := hL r (List.mem_of_getElem? hri)
          clear g0
          have g0 : cs[0 + (i : Int).toNat * Tryd.prog.types[21].size]? = some (.int .i32 (r : Int)) := by rw [Int.toNat_natCast, hs21, Nat.zero_add, Nat.mul_one]; exact hz.get i r (by rw [List.getElem?_map, hri]; rfl)
          have htk : insL (L.take (i + 1)) = insR (insL (L.take i)) r := by rw [List.take_add_one, hri]; exact insL_snoc _ _
          have hmono := flat_insL_take L (i + 1)
          have hall : AllV (insL (L.take i)) := insL_allV (fun x hx => hL x (List.mem_of_mem_take hx))
          have hrise := (insL_ok (L.take i)).1
          have e4 := enc_le4 r
          have ku := @union1 ro hT (insL (L.take i)) [r] hall (fun x hx => by rw [List.mem_singleton.1 hx]; exact hvr) (by rw [flat_one]; omega)
          rw [mg_one hrise, ← htk, ← hs, flat_one, ← encode_bs hvr] at ku
          obtain ⟨es, hes⟩ : ∃ es, es = Utf8.encode (r : Int) := ⟨_, rfl⟩
          rw [← hes] at ku
          have hsz2 : (bs (flat (insL (L.take (i + 1))))).size = (flat (insL (L.take (i + 1)))).length := bs_size _
          obtain ⟨s2, hs2⟩ : ∃ s2, s2 = bs (flat (insL (L.take (i + 1)))) := ⟨_, rfl⟩
          rw [← hs2] at ku hsz2
          by_cases hlt : (flat (insL (L.take (i + 1)))).length < 40
          · have c9 : decide ((s2.size : Int) ≥ 40) = false := decide_eq_false (by omega)
            conv => whnf
            repeat' ((first | rw [← hes] | ((with_reducible refine y'r ?_ ?_); (· decide +kernel)) | ((with_reducible refine y'g ?_ ?_); (· exact ⟨_, rfl⟩)) | (with_reducible first | refine y'b ‹_› ?_ | refine y'n ‹_› ?_ | refine y'1 ‹_› ?_ | refine y'2 ‹_› ?_ | refine y'3 ?_ | refine y'4 ?_) | ((with_reducible refine y'n ?_ ?_); (· first | with_reducible assumption | exact decide_eq_true (by omega) | decide +kernel)) | (with_reducible first | refine y'n (y'7 ‹_› ‹_›) ?_ | refine y'v (y'8 ‹_› ‹_›) (fun s hs => ?_) | refine y'5 ‹_› ?_ | refine y'6 ‹_› ?_) | ((with_reducible apply y'o); (· exact g0)) | ((with_reducible refine y'p ?_ ?_); (· rfl)) | ((with_reducible refine y'q ?_ ?_); (· rfl)) | (refine Fn.frame [] (by rfl) (by exact trivial) (by rfl) (ku ?_)) | fail) <;> (conv => whnf))
            exact ⟨n - (i + 1), by omega, Into.weak [0] [(0, .a (.slc 0 0 n cap)), (6, .a (.str s2)), (19, .a (.slc 0 0 n cap)), (20, .a (.int .i64 n)), (21, .a (.int .i64 ((i + 1 : Nat) : Int)))] [.cells cs 21 mk] ⟨i + 1, s2, by omega, rfl, hs2, hlt, rfl, rfl⟩ ⟨rfl, rfl, rfl, rfl, congrArg (fun z => some (V.a (.int .i64 z))) hwi, trivial⟩ ⟨ren_pl hp _ _ _, trivial⟩ (by simp [nodupb, baseb, Ob.okb, frmOk, V.okb, A.okb, hp.2] <;> decide)⟩
          · have c9 : decide ((s2.size : Int) ≥ 40) = true := decide_eq_true (by omega)
            rw [if_neg (by omega)] at hK
            conv => whnf
            repeat' ((first | rw [← hes] | ((with_reducible refine y'r ?_ ?_); (· decide +kernel)) | ((with_reducible refine y'g ?_ ?_); (· exact ⟨_, rfl⟩)) | (with_reducible first | refine y'b ‹_› ?_ | refine y'n ‹_› ?_ | refine y'1 ‹_› ?_ | refine y'2 ‹_› ?_ | refine y'3 ?_ | refine y'4 ?_) | ((with_reducible refine y'n ?_ ?_); (· first | with_reducible assumption | exact decide_eq_true (by omega) | decide +kernel)) | (with_reducible first | refine y'n (y'7 ‹_› ‹_›) ?_ | refine y'v (y'8 ‹_› ‹_›) (fun s hs => ?_) | refine y'5 ‹_› ?_ | refine y'6 ‹_› ?_) | ((with_reducible apply y'o); (· exact g0)) | ((with_reducible refine y'p ?_ ?_); (· rfl)) | ((with_reducible refine y'q ?_ ?_); (· rfl)) | (refine Fn.frame [] (by rfl) (by exact trivial) (by rfl) (ku ?_)) | fail) <;> (conv => whnf))
            exact keepOf (v₀ := .t [.a (.str (bs [])), .a (.int .i64 82)]) [.cells cs 21 mk] [0] rfl ⟨ren_pl hp _ _ _, trivial⟩ (by simp [nodupb, baseb, Ob.okb, frmOk, V.okb, E.okb, A.okb, hp.2] <;> decide) hK
        · have d1 : decide ((i : Int) < (n : Int)) = false := decide_eq_false (by omega)
          rw [List.take_of_length_le (by omega)] at hs hsl
          rw [if_pos hsl] at hK
          have hsz : s.size = (flat (insL L)).length := by rw [hs]; exact bs_size _
          have hfin : ({ data := #[4] } : ByteArray) ++ s = bs (4 :: flat (insL L)) := by rw [hs, show ({ data := #[4] } : ByteArray) = bs [4] from rfl, bs_append]; rfl
          have g0 := True.intro
          conv => whnf
          repeat' ((first | ((with_reducible refine y'r ?_ ?_); (· decide +kernel)) | ((with_reducible refine y'g ?_ ?_); (· exact ⟨_, rfl⟩)) | (with_reducible first | refine y'b ‹_› ?_ | refine y'n ‹_› ?_ | refine y'1 ‹_› ?_ | refine y'2 ‹_› ?_ | refine y'3 ?_ | refine y'4 ?_) | ((with_reducible refine y'n ?_ ?_); (· first | with_reducible assumption | exact decide_eq_true (by omega) | decide +kernel)) | (with_reducible first | refine y'n (y'7 ‹_› ‹_›) ?_ | refine y'v (y'8 ‹_› ‹_›) (fun s hs => ?_) | refine y'5 ‹_› ?_ | refine y'6 ‹_› ?_) | ((with_reducible apply y'o); (· exact g0)) | ((with_reducible refine y'p ?_ ?_); (· rfl)) | ((with_reducible refine y'q ?_ ?_); (· rfl)) | fail) <;> (conv => whnf))
          refine y'n (decide_eq_true (by show 1 + s.size ≤ _; omega)) ?_
          conv => whnf
          repeat' ((first | ((with_reducible refine y'r ?_ ?_); (· decide +kernel)) | ((with_reducible refine y'g ?_ ?_); (· exact ⟨_, rfl⟩)) | (with_reducible first | refine y'b ‹_› ?_ | refine y'n ‹_› ?_ | refine y'1 ‹_› ?_ | refine y'2 ‹_› ?_ | refine y'3 ?_ | refine y'4 ?_) | ((with_reducible refine y'n ?_ ?_); (· first | with_reducible assumption | exact decide_eq_true (by omega) | decide +kernel)) | (with_reducible first | refine y'n (y'7 ‹_› ‹_›) ?_ | refine y'v (y'8 ‹_› ‹_›) (fun s hs => ?_) | refine y'5 ‹_› ?_ | refine y'6 ‹_› ?_) | ((with_reducible apply y'o); (· exact g0)) | ((with_reducible refine y'p ?_ ?_); (· rfl)) | ((with_reducible refine y'q ?_ ?_); (· rfl)) | fail) <;> (conv => whnf))
          exact keepOf (v₀ := .t [.a (.str (bs (4 :: flat (insL L)))), .a (.int .i64 0)]) [.cells cs 21 mk] [0] (congrArg (fun s => V.t [E.a (A.str s), E.a (.int .i64 0)]) hfin) ⟨ren_pl hp _ _ _, trivial⟩ (by simp [nodupb, baseb, Ob.okb, frmOk, V.okb, E.okb, A.okb, hp.2] <;> decide) hK
end
end Go.Proofs.YtimddbgnaeeggaaDoor.KD
namespace Go.Proofs.YtimddbgnaeeggaaDoor.KD
open Go.Eng
set_option maxRecDepth 100000
section
variable {ro : Addr → A → Prop}
set_option maxHeartbeats 4000000 in
theorem risingR (L : List Nat) (p : Addr) (n cap : Nat) (hn : n = L.length) (hn9 : n ≤ 70368744177664) (hL : ∀ r ∈ L, r < 1114112) (hro : ∀ (i r : Nat), L[i]? = some r → ro (p.add i) (.int .i32 (r : Int))) {K : V → Hp → Prop}
    (hK : ∀ os Y m c mk', os = i32s (insL L ++ Y) → m = (insL L).length → c = m + Y.length → K (.a (.slc 0 0 m c)) [.cells os 21 mk']) :
    Go.Eng.Fn Tryd.prog ro 67 [.a (.rslc p n cap)] [] K := by
  refine Fn.weak ?_
  refine Fn.of 0 (cutAt [10, 11, 12] h67) rfl Tryd.func67 rfl (Nat.le_of_ble_eq_true rfl) ?_
  conv => whnf
  repeat' ((first | ((with_reducible refine y'r ?_ ?_); (· decide +kernel)) | ((with_reducible refine y'g ?_ ?_); (· exact ⟨_, rfl⟩)) | (with_reducible first | refine y'b ‹_› ?_ | refine y'n ‹_› ?_ | refine y'1 ‹_› ?_ | refine y'2 ‹_› ?_ | refine y'3 ?_ | refine y'4 ?_) | ((with_reducible refine y'n ?_ ?_); (· first | with_reducible assumption | exact decide_eq_true (by omega) | decide +kernel)) | (with_reducible first | refine y'n (y'7 ‹_› ‹_›) ?_ | refine y'v (y'8 ‹_› ‹_›) (fun s hs => ?_) | refine y'5 ‹_› ?_ | refine y'6 ‹_› ?_) | ((with_reducible apply y'o); (· exact g1)) | (refine ⟨_, g0, ?_⟩) | ((with_reducible refine y'p ?_ ?_); (· rfl)) | ((with_reducible refine y'q ?_ ?_); (· rfl)) | fail) <;> (conv => whnf))
  refine loopx_of (fun k F H => ∃ (i m c : Nat) (bk : Bool) (Y : List Nat) (os : List A), i ≤ n ∧ k = n - i ∧ os = i32s (insL (L.take i) ++ Y) ∧ m = (insL (L.take i)).length ∧ c = m + Y.length ∧ F = [(0, .a (.rslc p n cap)), (3, .a (.slc 0 0 m c)), (4, .a (.int .i64 i))] ∧ H = [.cells os 21 bk]) n ?_ ?_
  · refine Into.ghost 0 [(0, .a (.rslc p n cap)), (3, .a (.slc 0 0 0 0)), (4, .a (.int .i64 (0 : Nat)))] [.cells [] 21 false] rfl ⟨rfl, rfl, rfl, trivial⟩ ⟨rfl, trivial⟩ (by simp [Ob.okb, frmOk, V.okb, A.okb] <;> decide) ?_
    exact Into.weak [0] _ [.cells [] 21 false] ⟨0, 0, 0, false, [], [], Nat.zero_le _, rfl, i32s_nil.symm, rfl, rfl, rfl, rfl⟩ ⟨rfl, rfl, rfl, trivial⟩ ⟨rfl, trivial⟩ (by simp [nodupb, baseb, Ob.okb, frmOk, V.okb, A.okb] <;> decide)
  · rintro k F H ⟨i, m, c, bk, Y, os, hi, rfl, hos, hm, hc, rfl, rfl⟩
    have hq := i32s_pl hos
    have hol : os.length = c := by rw [hos, i32s_len, List.length_append, hc, hm]
    have hmf : m ≤ 1114112 := by rw [hm]; exact insL_few (fun r hr => hL r (List.mem_of_mem_take hr))
    by_cases hin : i < n
    · have d1 : decide ((i : Int) < (n : Int)) = true := decide_eq_true (by omega)
      obtain ⟨r, hr⟩ : ∃ r, L[i]? = some r := ⟨_, List.getElem?_eq_getElem (by omega)⟩
      have hts : insL (L.take (i + 1)) = insR (insL (L.take i)) r := by rw [List.take_add_one, hr]; exact insL_snoc _ _
      generalize insL (L.take i) = O at *
      obtain ⟨at_, hat⟩ : ∃ a, a = atR O r := ⟨_, rfl⟩
      have hal := atR_le O r
      rw [← hat, ← hm] at hal
      have g0 : ro (p.add ((i : Int).toNat * Tryd.prog.types[21].size)) (.int .i32 (r : Int)) := by
        rw [Int.toNat_natCast, s21, Nat.mul_one]
        exact hro i r hr
      have d2 : decide (0 ≤ (i : Int) ∧ (i : Int) < (n : Int)) = true := decide_eq_true (by omega)
      have g1 := True.intro
      conv => whnf
      repeat' ((first | ((with_reducible refine y'r ?_ ?_); (· decide +kernel)) | ((with_reducible refine y'g ?_ ?_); (· exact ⟨_, rfl⟩)) | (with_reducible first | refine y'b ‹_› ?_ | refine y'n ‹_› ?_ | refine y'1 ‹_› ?_ | refine y'2 ‹_› ?_ | refine y'3 ?_ | refine y'4 ?_) | ((with_reducible refine y'n ?_ ?_); (· first | with_reducible assumption | exact decide_eq_true (by omega) | decide +kernel)) | (with_reducible first | refine y'n (y'7 ‹_› ‹_›) ?_ | refine y'v (y'8 ‹_› ‹_›) (fun s hs => ?_) | refine y'5 ‹_› ?_ | refine y'6 ‹_› ?_) | ((with_reducible apply y'o); (· exact g1)) | (refine ⟨_, g0, ?_⟩) | ((with_reducible refine y'p ?_ ?_); (· rfl)) | ((with_reducible refine y'q ?_ ?_); (· rfl)) | fail) <;> (conv => whnf))
      refine loopx_of (fun q F H => ∃ a : Nat, a ≤ at_ ∧ q = at_ - a ∧ F = [(0, .a (.rslc p n cap)), (3, .a (.slc 0 0 m c)), (4, .a (.int .i64 i)), (5, .a (.int .i64 a))] ∧ H = [.cells os 21 bk]) at_ ?_ ?_
      · exact Into.weak [0] [(0, .a (.rslc p n cap)), (3, .a (.slc 0 0 m c)), (4, .a (.int .i64 i)), (5, .a (.int .i64 (0 : Nat)))] [.cells os 21 bk] ⟨0, Nat.zero_le _, rfl, rfl, rfl⟩ ⟨rfl, rfl, rfl, rfl, trivial⟩ ⟨ren_pl hq _ _ _, trivial⟩ (by simp [nodupb, baseb, Ob.okb, frmOk, V.okb, A.okb, hq.2] <;> decide)
      · rintro q F H ⟨a, ha, rfl, rfl, rfl⟩
        have hwa : IntKind.i64.wrap (↑a + 1) = ((a + 1 : Nat) : Int) := by rw [i64w (by omega) (by omega)]; rfl
        have hwi : IntKind.i64.wrap (↑i + 1) = ((i + 1 : Nat) : Int) := by rw [i64w (by omega) (by omega)]; rfl
        by_cases hlt : a < at_
        · have d3 : decide ((a : Int) < (m : Int)) = true := decide_eq_true (by omega)
          have d4 : decide (0 ≤ (a : Int) ∧ (a : Int) < (m : Int)) = true := decide_eq_true (by omega)
          obtain ⟨x, hx⟩ : ∃ x, O[a]? = some x := ⟨_, List.getElem?_eq_getElem (by omega)⟩
          have hxr := atR_at (r := r) (by rw [← hat]; exact ha) hx
          rw [← hat] at hxr
          clear g1
          have g1 : os[0 + (a : Int).toNat * Tryd.prog.types[21].size]? = some (.int .i32 (x : Int)) := by
            rw [Int.toNat_natCast, s21, Nat.zero_add, Nat.mul_one]
            exact i32s_get hos (by rw [List.getElem?_append_left (by omega)]; exact hx)
          have d5 : decide ((x : Int) < (r : Int)) = true := decide_eq_true (by omega)
          conv => whnf
          repeat' ((first | ((with_reducible refine y'r ?_ ?_); (· decide +kernel)) | ((with_reducible refine y'g ?_ ?_); (· exact ⟨_, rfl⟩)) | (with_reducible first | refine y'b ‹_› ?_ | refine y'n ‹_› ?_ | refine y'1 ‹_› ?_ | refine y'2 ‹_› ?_ | refine y'3 ?_ | refine y'4 ?_) | ((with_reducible refine y'n ?_ ?_); (· first | with_reducible assumption | exact decide_eq_true (by omega) | decide +kernel)) | (with_reducible first | refine y'n (y'7 ‹_› ‹_›) ?_ | refine y'v (y'8 ‹_› ‹_›) (fun s hs => ?_) | refine y'5 ‹_› ?_ | refine y'6 ‹_› ?_) | ((with_reducible apply y'o); (· exact g1)) | (refine ⟨_, g0, ?_⟩) | ((with_reducible refine y'p ?_ ?_); (· rfl)) | ((with_reducible refine y'q ?_ ?_); (· rfl)) | fail) <;> (conv => whnf))
          exact ⟨at_ - (a + 1), by omega, Into.weak [0] [(0, .a (.rslc p n cap)), (3, .a (.slc 0 0 m c)), (4, .a (.int .i64 i)), (5, .a (.int .i64 ((a + 1 : Nat) : Int)))] [.cells os 21 bk] ⟨a + 1, by omega, rfl, rfl, rfl⟩ ⟨rfl, rfl, rfl, congrArg (fun z => some (V.a (.int .i64 z))) hwa, trivial⟩ ⟨ren_pl hq _ _ _, trivial⟩ (by simp [nodupb, baseb, Ob.okb, frmOk, V.okb, A.okb, hq.2] <;> decide)⟩
        · obtain rfl : a = at_ := by omega
          have hie := insR_eq O r
          rw [← hat] at hie
          by_cases hor : O[a]? = some r
          · rw [if_pos hor] at hie
            obtain ⟨h1, h2⟩ := List.getElem?_eq_some_iff.1 hor
            have d3 : decide ((a : Int) < (m : Int)) = true := decide_eq_true (by omega)
            have d4 : decide (0 ≤ (a : Int) ∧ (a : Int) < (m : Int)) = true := decide_eq_true (by omega)
            obtain ⟨x, hx, hxr⟩ : ∃ x, O[a]? = some x ∧ x = r := ⟨r, hor, rfl⟩
            clear g1
            have g1 : os[0 + (a : Int).toNat * Tryd.prog.types[21].size]? = some (.int .i32 (x : Int)) := by
              rw [Int.toNat_natCast, s21, Nat.zero_add, Nat.mul_one]
              exact i32s_get hos (by rw [List.getElem?_append_left (by omega)]; exact hx)
            have d5 : decide ((x : Int) < (r : Int)) = false := decide_eq_false (by omega)
            have d6 : ((x : Int) == (r : Int)) = true := by rw [hxr]; simp
            conv => whnf
            repeat' ((first | ((with_reducible refine y'r ?_ ?_); (· decide +kernel)) | ((with_reducible refine y'g ?_ ?_); (· exact ⟨_, rfl⟩)) | (with_reducible first | refine y'b ‹_› ?_ | refine y'n ‹_› ?_ | refine y'1 ‹_› ?_ | refine y'2 ‹_› ?_ | refine y'3 ?_ | refine y'4 ?_) | ((with_reducible refine y'n ?_ ?_); (· first | with_reducible assumption | exact decide_eq_true (by omega) | decide +kernel)) | (with_reducible first | refine y'n (y'7 ‹_› ‹_›) ?_ | refine y'v (y'8 ‹_› ‹_›) (fun s hs => ?_) | refine y'5 ‹_› ?_ | refine y'6 ‹_› ?_) | ((with_reducible apply y'o); (· exact g1)) | (refine ⟨_, g0, ?_⟩) | ((with_reducible refine y'p ?_ ?_); (· rfl)) | ((with_reducible refine y'q ?_ ?_); (· rfl)) | fail) <;> (conv => whnf))
            exact ⟨n - (i + 1), by omega, Into.weak [0] [(0, .a (.rslc p n cap)), (3, .a (.slc 0 0 m c)), (4, .a (.int .i64 ((i + 1 : Nat) : Int)))] [.cells os 21 bk] ⟨i + 1, m, c, bk, Y, os, by omega, rfl, by rw [hts, hie]; exact hos, by rw [hts, hie]; exact hm, hc, rfl, rfl⟩ ⟨rfl, rfl, congrArg (fun z => some (V.a (.int .i64 z))) hwi, trivial⟩ ⟨ren_pl hq _ _ _, trivial⟩ (by simp [nodupb, baseb, Ob.okb, frmOk, V.okb, A.okb, hq.2] <;> decide)⟩
          · rw [if_neg hor] at hie
            by_cases ham : a < m
            case' pos =>
              have d3 : decide ((a : Int) < (m : Int)) = true := decide_eq_true (by omega)
              have d4 : decide (0 ≤ (a : Int) ∧ (a : Int) < (m : Int)) = true := decide_eq_true (by omega)
              obtain ⟨x, hx⟩ : ∃ x, O[a]? = some x := ⟨_, List.getElem?_eq_getElem (by omega)⟩
              have hxr := atR_at (r := r) (by rw [← hat]; exact Nat.le_refl _) hx
              rw [← hat] at hxr
              have hxe : x ≠ r := fun h => hor (by rw [hx, h])
              clear g1
              have g1 : os[0 + (a : Int).toNat * Tryd.prog.types[21].size]? = some (.int .i32 (x : Int)) := by
                rw [Int.toNat_natCast, s21, Nat.zero_add, Nat.mul_one]
                exact i32s_get hos (by rw [List.getElem?_append_left (by omega)]; exact hx)
              have d5 : decide ((x : Int) < (r : Int)) = false := decide_eq_false (by omega)
              have d6 : ((x : Int) == (r : Int)) = false := by simp; omega
              conv => whnf
              repeat' ((first | ((with_reducible refine y'r ?_ ?_); (· decide +kernel)) | ((with_reducible refine y'g ?_ ?_); (· exact ⟨_, rfl⟩)) | (with_reducible first | refine y'b ‹_› ?_ | refine y'n ‹_› ?_ | refine y'1 ‹_› ?_ | refine y'2 ‹_› ?_ | refine y'3 ?_ | refine y'4 ?_) | ((with_reducible refine y'n ?_ ?_); (· first | with_reducible assumption | exact decide_eq_true (by omega) | decide +kernel)) | (with_reducible first | refine y'n (y'7 ‹_› ‹_›) ?_ | refine y'v (y'8 ‹_› ‹_›) (fun s hs => ?_) | refine y'5 ‹_› ?_ | refine y'6 ‹_› ?_) | ((with_reducible apply y'o); (· exact g1)) | (refine ⟨_, g0, ?_⟩) | ((with_reducible refine y'p ?_ ?_); (· rfl)) | ((with_reducible refine y'q ?_ ?_); (· rfl)) | fail) <;> (conv => whnf))
              clear g1 d3 d4 d5 d6
            case' neg =>
              have d3 : decide ((a : Int) < (m : Int)) = false := decide_eq_false (by omega)
              conv => whnf
              repeat' ((first | ((with_reducible refine y'r ?_ ?_); (· decide +kernel)) | ((with_reducible refine y'g ?_ ?_); (· exact ⟨_, rfl⟩)) | (with_reducible first | refine y'b ‹_› ?_ | refine y'n ‹_› ?_ | refine y'1 ‹_› ?_ | refine y'2 ‹_› ?_ | refine y'3 ?_ | refine y'4 ?_) | ((with_reducible refine y'n ?_ ?_); (· first | with_reducible assumption | exact decide_eq_true (by omega) | decide +kernel)) | (with_reducible first | refine y'n (y'7 ‹_› ‹_›) ?_ | refine y'v (y'8 ‹_› ‹_›) (fun s hs => ?_) | refine y'5 ‹_› ?_ | refine y'6 ‹_› ?_) | ((with_reducible apply y'o); (· exact g1)) | (refine ⟨_, g0, ?_⟩) | ((with_reducible refine y'p ?_ ?_); (· rfl)) | ((with_reducible refine y'q ?_ ?_); (· rfl)) | fail) <;> (conv => whnf))
              clear g1 d3
            all_goals
              refine cutx_of (fun F H => ∃ gr : List A, gr = i32s ([] ++ []) ∧ F = [(0, .a (.rslc p n cap)), (3, .a (.slc 0 0 m c)), (4, .a (.int .i64 i)), (5, .a (.int .i64 a)), (6, .a (.slc 1 0 0 0))] ∧ H = [.cells os 21 bk, .cells gr 21 false]) ?_ ?_
              · refine Into.ghost 1 [(0, .a (.rslc p n cap)), (3, .a (.slc 0 0 m c)), (4, .a (.int .i64 i)), (5, .a (.int .i64 a)), (6, .a (.slc 1 0 0 0))] [.cells os 21 bk, .cells [] 21 false] rfl ⟨rfl, rfl, rfl, rfl, rfl, trivial⟩ ⟨ung_pl hq.1 _ _ _, rfl, trivial⟩ (by simp [Ob.okb, frmOk, V.okb, A.okb, hq.2] <;> decide) ?_
                exact Into.weak [0, 1] _ [.cells os 21 bk, .cells [] 21 false] ⟨[], i32s_nil.symm, rfl, rfl⟩ ⟨rfl, rfl, rfl, rfl, rfl, trivial⟩ ⟨ren_pl hq _ _ _, rfl, trivial⟩ (by simp [nodupb, baseb, Ob.okb, frmOk, V.okb, A.okb, hq.2] <;> decide)
              rintro F H ⟨gr, hgr, rfl, rfl⟩
              have hgp := i32s_pl hgr
              have hgl : gr.length = 0 := by rw [hgr, i32s_len]; rfl
              have e0 : decide (0 ≤ (a : Int) ∧ (a : Int) ≤ (c : Int)) = true := decide_eq_true (by omega)
              have g1 := True.intro
              have ho0 : (if c = 0 then 0 else 0 + 0 * Tryd.prog.types[21].size) = 0 := by split <;> simp
              have ha0 : (a : Int).toNat - 0 = a := rfl
              conv => whnf
              repeat' ((first | ((with_reducible refine y'r ?_ ?_); (· decide +kernel)) | ((with_reducible refine y'g ?_ ?_); (· exact ⟨_, rfl⟩)) | (with_reducible first | refine y'b ‹_› ?_ | refine y'n ‹_› ?_ | refine y'1 ‹_› ?_ | refine y'2 ‹_› ?_ | refine y'3 ?_ | refine y'4 ?_) | ((with_reducible refine y'n ?_ ?_); (· first | with_reducible assumption | exact decide_eq_true (by omega) | decide +kernel)) | (with_reducible first | refine y'n (y'7 ‹_› ‹_›) ?_ | refine y'v (y'8 ‹_› ‹_›) (fun s hs => ?_) | refine y'5 ‹_› ?_ | refine y'6 ‹_› ?_) | ((with_reducible apply y'o); (· exact g1)) | (refine ⟨_, g0, ?_⟩) | ((with_reducible refine y'p ?_ ?_); (· rfl)) | ((with_reducible refine y'q ?_ ?_); (· rfl)) | fail) <;> (conv => whnf))
              rw [ho0, ha0]
              refine y'n (decide_eq_true (by rw [s21, hol]; omega)) ?_
              obtain ⟨nw, hnw⟩ : ∃ nw, nw = List.drop 0 (List.take (0 + a * Tryd.prog.types[21].size) os) := ⟨_, rfl⟩
              have hnw2 : nw = i32s ((O.drop 0).take a) := by rw [hnw]; exact i32_sub hos (by omega) s21
              rw [List.drop_zero] at hnw2
              have hnl : nw.length = a := by rw [hnw2, i32s_len, List.length_take]; omega
              conv => whnf
              rw [← hnw]
              clear hnw
              refine y'c (fun h => ?_) (fun h => ?_)
              case' refine_1 =>
                have h' := of_decide_eq_true h
                conv => whnf
                refine y'n (decide_eq_true (by rw [s21, hnl, hgl]; omega)) ?_
                conv => whnf
                repeat' ((first | ((with_reducible refine y'r ?_ ?_); (· decide +kernel)) | ((with_reducible refine y'g ?_ ?_); (· exact ⟨_, rfl⟩)) | (with_reducible first | refine y'b ‹_› ?_ | refine y'n ‹_› ?_ | refine y'1 ‹_› ?_ | refine y'2 ‹_› ?_ | refine y'3 ?_ | refine y'4 ?_) | ((with_reducible refine y'n ?_ ?_); (· first | with_reducible assumption | exact decide_eq_true (by omega) | decide +kernel)) | (with_reducible first | refine y'n (y'7 ‹_› ‹_›) ?_ | refine y'v (y'8 ‹_› ‹_›) (fun s hs => ?_) | refine y'5 ‹_› ?_ | refine y'6 ‹_› ?_) | ((with_reducible apply y'o); (· exact g1)) | (refine ⟨_, g0, ?_⟩) | ((with_reducible refine y'p ?_ ?_); (· rfl)) | ((with_reducible refine y'q ?_ ?_); (· rfl)) | fail) <;> (conv => whnf))
                refine y'f (i32_ins (L := []) (y := []) hgr hnw2 rfl s21 (by rw [List.length_take]; simp; omega)) (fun xs hxs => ?_)
                conv => whnf
                repeat' ((first | ((with_reducible refine y'r ?_ ?_); (· decide +kernel)) | ((with_reducible refine y'g ?_ ?_); (· exact ⟨_, rfl⟩)) | (with_reducible first | refine y'b ‹_› ?_ | refine y'n ‹_› ?_ | refine y'1 ‹_› ?_ | refine y'2 ‹_› ?_ | refine y'3 ?_ | refine y'4 ?_) | ((with_reducible refine y'n ?_ ?_); (· first | with_reducible assumption | exact decide_eq_true (by omega) | decide +kernel)) | (with_reducible first | refine y'n (y'7 ‹_› ‹_›) ?_ | refine y'v (y'8 ‹_› ‹_›) (fun s hs => ?_) | refine y'5 ‹_› ?_ | refine y'6 ‹_› ?_) | ((with_reducible apply y'o); (· exact g1)) | (refine ⟨_, g0, ?_⟩) | ((with_reducible refine y'p ?_ ?_); (· rfl)) | ((with_reducible refine y'q ?_ ?_); (· rfl)) | fail) <;> (conv => whnf))
                have hxp := i32s_pl hxs
                refine cutx_of (fun F H => ∃ (q c2 : Nat) (b2 : Bool) (Y2 : List Nat) (xs : List A), xs = i32s (O.take a ++ Y2) ∧ q = a ∧ c2 = q + Y2.length ∧ F = [(0, .a (.rslc p n cap)), (3, .a (.slc 0 0 m c)), (4, .a (.int .i64 i)), (5, .a (.int .i64 a)), (6, .a (.slc 1 0 q c2))] ∧ H = [.cells os 21 bk, .cells xs 21 b2]) (Into.weak [0, 1] [(0, .a (.rslc p n cap)), (3, .a (.slc 0 0 m c)), (4, .a (.int .i64 i)), (5, .a (.int .i64 a)), (6, .a (.slc 1 0 (0 + a) (0)))] [.cells os 21 bk, .cells xs 21 false] ⟨_, _, false, [], xs, (by rw [hxs]; simp), Nat.zero_add a, (by simp; omega), rfl, rfl⟩ ⟨rfl, rfl, rfl, rfl, rfl, trivial⟩ ⟨ren_pl hq _ _ _, ren_pl hxp _ _ _, trivial⟩ (by simp [nodupb, baseb, Ob.okb, frmOk, V.okb, A.okb, hq.2, hxp.2] <;> decide)) ?_
              case' refine_2 =>
                have h' := of_decide_eq_false h
                conv => whnf
                refine y'n (decide_eq_true (by rw [s21, b21, hgl]; omega)) ?_
                intro cap' hcap'
                conv => whnf
                repeat' ((first | ((with_reducible refine y'r ?_ ?_); (· decide +kernel)) | ((with_reducible refine y'g ?_ ?_); (· exact ⟨_, rfl⟩)) | (with_reducible first | refine y'b ‹_› ?_ | refine y'n ‹_› ?_ | refine y'1 ‹_› ?_ | refine y'2 ‹_› ?_ | refine y'3 ?_ | refine y'4 ?_) | ((with_reducible refine y'n ?_ ?_); (· first | with_reducible assumption | exact decide_eq_true (by omega) | decide +kernel)) | (with_reducible first | refine y'n (y'7 ‹_› ‹_›) ?_ | refine y'v (y'8 ‹_› ‹_›) (fun s hs => ?_) | refine y'5 ‹_› ?_ | refine y'6 ‹_› ?_) | ((with_reducible apply y'o); (· exact g1)) | (refine ⟨_, g0, ?_⟩) | ((with_reducible refine y'p ?_ ?_); (· rfl)) | ((with_reducible refine y'q ?_ ?_); (· rfl)) | fail) <;> (conv => whnf))
                refine y'f (i32_cat (L := []) (y := []) hgr hnw2 rfl s21 rfl) (fun xs hxs => ?_)
                conv => whnf
                repeat' ((first | ((with_reducible refine y'r ?_ ?_); (· decide +kernel)) | ((with_reducible refine y'g ?_ ?_); (· exact ⟨_, rfl⟩)) | (with_reducible first | refine y'b ‹_› ?_ | refine y'n ‹_› ?_ | refine y'1 ‹_› ?_ | refine y'2 ‹_› ?_ | refine y'3 ?_ | refine y'4 ?_) | ((with_reducible refine y'n ?_ ?_); (· first | with_reducible assumption | exact decide_eq_true (by omega) | decide +kernel)) | (with_reducible first | refine y'n (y'7 ‹_› ‹_›) ?_ | refine y'v (y'8 ‹_› ‹_›) (fun s hs => ?_) | refine y'5 ‹_› ?_ | refine y'6 ‹_› ?_) | ((with_reducible apply y'o); (· exact g1)) | (refine ⟨_, g0, ?_⟩) | ((with_reducible refine y'p ?_ ?_); (· rfl)) | ((with_reducible refine y'q ?_ ?_); (· rfl)) | fail) <;> (conv => whnf))
                have hxp := i32s_pl hxs
                refine cutx_of (fun F H => ∃ (q c2 : Nat) (b2 : Bool) (Y2 : List Nat) (xs : List A), xs = i32s (O.take a ++ Y2) ∧ q = a ∧ c2 = q + Y2.length ∧ F = [(0, .a (.rslc p n cap)), (3, .a (.slc 0 0 m c)), (4, .a (.int .i64 i)), (5, .a (.int .i64 a)), (6, .a (.slc 1 0 q c2))] ∧ H = [.cells os 21 bk, .cells xs 21 b2]) (Into.weak [0, 2] [(0, .a (.rslc p n cap)), (3, .a (.slc 0 0 m c)), (4, .a (.int .i64 i)), (5, .a (.int .i64 a)), (6, .a (.slc 1 0 (0 + a) (cap')))] [.cells os 21 bk, .cells xs 21 false] ⟨_, _, false, (List.replicate (cap' - (0 + a)) 0), xs, (by rw [hxs]; simp), Nat.zero_add a, (by rw [List.length_replicate]; omega), rfl, rfl⟩ ⟨rfl, rfl, rfl, rfl, rfl, trivial⟩ ⟨ren_pl hq _ _ _, ren_pl hxp _ _ _, trivial⟩ (by simp [nodupb, baseb, Ob.okb, frmOk, V.okb, A.okb, hq.2, hxp.2] <;> decide)) ?_
              all_goals
                clear xs hxs hxp
                clear gr hgr hgp hgl nw hnw2 hnl
                rintro F H ⟨q, c2, b2, Y2, xs, hxs, hq2, hc2, rfl, rfl⟩
                have hxq := i32s_pl hxs
                have hxl : xs.length = c2 := by rw [hxs, i32s_len, List.length_append, List.length_take, hc2]; omega
                conv => whnf
                repeat' ((first | ((with_reducible refine y'r ?_ ?_); (· decide +kernel)) | ((with_reducible refine y'g ?_ ?_); (· exact ⟨_, rfl⟩)) | (with_reducible first | refine y'b ‹_› ?_ | refine y'n ‹_› ?_ | refine y'1 ‹_› ?_ | refine y'2 ‹_› ?_ | refine y'3 ?_ | refine y'4 ?_) | ((with_reducible refine y'n ?_ ?_); (· first | with_reducible assumption | exact decide_eq_true (by omega) | decide +kernel)) | (with_reducible first | refine y'n (y'7 ‹_› ‹_›) ?_ | refine y'v (y'8 ‹_› ‹_›) (fun s hs => ?_) | refine y'5 ‹_› ?_ | refine y'6 ‹_› ?_) | ((with_reducible apply y'o); (· exact g1)) | (refine ⟨_, g0, ?_⟩) | ((with_reducible refine y'p ?_ ?_); (· rfl)) | ((with_reducible refine y'q ?_ ?_); (· rfl)) | fail) <;> (conv => whnf))
                refine y'c (fun h => ?_) (fun h => ?_)
                case' refine_1 =>
                  have h' := of_decide_eq_true h
                  conv => whnf
                  refine y'n (decide_eq_true (by simp [s21]; omega)) ?_
                  conv => whnf
                  repeat' ((first | ((with_reducible refine y'r ?_ ?_); (· decide +kernel)) | ((with_reducible refine y'g ?_ ?_); (· exact ⟨_, rfl⟩)) | (with_reducible first | refine y'b ‹_› ?_ | refine y'n ‹_› ?_ | refine y'1 ‹_› ?_ | refine y'2 ‹_› ?_ | refine y'3 ?_ | refine y'4 ?_) | ((with_reducible refine y'n ?_ ?_); (· first | with_reducible assumption | exact decide_eq_true (by omega) | decide +kernel)) | (with_reducible first | refine y'n (y'7 ‹_› ‹_›) ?_ | refine y'v (y'8 ‹_› ‹_›) (fun s hs => ?_) | refine y'5 ‹_› ?_ | refine y'6 ‹_› ?_) | ((with_reducible apply y'o); (· exact g1)) | (refine ⟨_, g0, ?_⟩) | ((with_reducible refine y'p ?_ ?_); (· rfl)) | ((with_reducible refine y'q ?_ ?_); (· rfl)) | fail) <;> (conv => whnf))
                  refine y'f (i32_in hxs (by rw [List.length_take]; omega) s21 (by omega) (x := r) rfl) (fun xt hxt => ?_)
                  conv => whnf
                  repeat' ((first | ((with_reducible refine y'r ?_ ?_); (· decide +kernel)) | ((with_reducible refine y'g ?_ ?_); (· exact ⟨_, rfl⟩)) | (with_reducible first | refine y'b ‹_› ?_ | refine y'n ‹_› ?_ | refine y'1 ‹_› ?_ | refine y'2 ‹_› ?_ | refine y'3 ?_ | refine y'4 ?_) | ((with_reducible refine y'n ?_ ?_); (· first | with_reducible assumption | exact decide_eq_true (by omega) | decide +kernel)) | (with_reducible first | refine y'n (y'7 ‹_› ‹_›) ?_ | refine y'v (y'8 ‹_› ‹_›) (fun s hs => ?_) | refine y'5 ‹_› ?_ | refine y'6 ‹_› ?_) | ((with_reducible apply y'o); (· exact g1)) | (refine ⟨_, g0, ?_⟩) | ((with_reducible refine y'p ?_ ?_); (· rfl)) | ((with_reducible refine y'q ?_ ?_); (· rfl)) | fail) <;> (conv => whnf))
                  have hxp := i32s_pl hxt
                  refine cutx_of (fun F H => ∃ (q c2 : Nat) (b2 : Bool) (Y2 : List Nat) (xs : List A), xs = i32s ((O.take a ++ [r]) ++ Y2) ∧ q = a + 1 ∧ c2 = q + Y2.length ∧ F = [(0, .a (.rslc p n cap)), (3, .a (.slc 0 0 m c)), (4, .a (.int .i64 i)), (5, .a (.int .i64 a)), (6, .a (.slc 1 0 q c2))] ∧ H = [.cells os 21 bk, .cells xs 21 b2]) (Into.weak [0, 1] [(0, .a (.rslc p n cap)), (3, .a (.slc 0 0 m c)), (4, .a (.int .i64 i)), (5, .a (.int .i64 a)), (6, .a (.slc 1 0 (q + 1) (c2)))] [.cells os 21 bk, .cells xt 21 b2] ⟨_, _, b2, Y2.tail, xt, hxt, (by omega), (by rw [List.length_tail]; omega), rfl, rfl⟩ ⟨rfl, rfl, rfl, rfl, rfl, trivial⟩ ⟨ren_pl hq _ _ _, ren_pl hxp _ _ _, trivial⟩ (by simp [nodupb, baseb, Ob.okb, frmOk, V.okb, A.okb, hq.2, hxp.2] <;> decide)) ?_
                case' refine_2 =>
                  have h' := of_decide_eq_false h
                  conv => whnf
                  refine y'n (decide_eq_true (by simp [s21, b21]; omega)) ?_
                  intro cap' hcap'
                  conv => whnf
                  repeat' ((first | ((with_reducible refine y'r ?_ ?_); (· decide +kernel)) | ((with_reducible refine y'g ?_ ?_); (· exact ⟨_, rfl⟩)) | (with_reducible first | refine y'b ‹_› ?_ | refine y'n ‹_› ?_ | refine y'1 ‹_› ?_ | refine y'2 ‹_› ?_ | refine y'3 ?_ | refine y'4 ?_) | ((with_reducible refine y'n ?_ ?_); (· first | with_reducible assumption | exact decide_eq_true (by omega) | decide +kernel)) | (with_reducible first | refine y'n (y'7 ‹_› ‹_›) ?_ | refine y'v (y'8 ‹_› ‹_›) (fun s hs => ?_) | refine y'5 ‹_› ?_ | refine y'6 ‹_› ?_) | ((with_reducible apply y'o); (· exact g1)) | (refine ⟨_, g0, ?_⟩) | ((with_reducible refine y'p ?_ ?_); (· rfl)) | ((with_reducible refine y'q ?_ ?_); (· rfl)) | fail) <;> (conv => whnf))
                  refine y'f (i32_new (c := cap') hxs (by rw [List.length_take]; omega) s21 rfl (x := r) rfl) (fun xt hxt => ?_)
                  conv => whnf
                  repeat' ((first | ((with_reducible refine y'r ?_ ?_); (· decide +kernel)) | ((with_reducible refine y'g ?_ ?_); (· exact ⟨_, rfl⟩)) | (with_reducible first | refine y'b ‹_› ?_ | refine y'n ‹_› ?_ | refine y'1 ‹_› ?_ | refine y'2 ‹_› ?_ | refine y'3 ?_ | refine y'4 ?_) | ((with_reducible refine y'n ?_ ?_); (· first | with_reducible assumption | exact decide_eq_true (by omega) | decide +kernel)) | (with_reducible first | refine y'n (y'7 ‹_› ‹_›) ?_ | refine y'v (y'8 ‹_› ‹_›) (fun s hs => ?_) | refine y'5 ‹_› ?_ | refine y'6 ‹_› ?_) | ((with_reducible apply y'o); (· exact g1)) | (refine ⟨_, g0, ?_⟩) | ((with_reducible refine y'p ?_ ?_); (· rfl)) | ((with_reducible refine y'q ?_ ?_); (· rfl)) | fail) <;> (conv => whnf))
                  have hxp := i32s_pl hxt
                  refine cutx_of (fun F H => ∃ (q c2 : Nat) (b2 : Bool) (Y2 : List Nat) (xs : List A), xs = i32s ((O.take a ++ [r]) ++ Y2) ∧ q = a + 1 ∧ c2 = q + Y2.length ∧ F = [(0, .a (.rslc p n cap)), (3, .a (.slc 0 0 m c)), (4, .a (.int .i64 i)), (5, .a (.int .i64 a)), (6, .a (.slc 1 0 q c2))] ∧ H = [.cells os 21 bk, .cells xs 21 b2]) (Into.weak [0, 3] [(0, .a (.rslc p n cap)), (3, .a (.slc 0 0 m c)), (4, .a (.int .i64 i)), (5, .a (.int .i64 a)), (6, .a (.slc 1 0 (q + 1) (cap')))] [.cells os 21 bk, .cells xt 21 false] ⟨_, _, false, (List.replicate (cap' - (q + 1)) 0), xt, hxt, (by omega), (by rw [List.length_replicate]; omega), rfl, rfl⟩ ⟨rfl, rfl, rfl, rfl, rfl, trivial⟩ ⟨ren_pl hq _ _ _, ren_pl hxp _ _ _, trivial⟩ (by simp [nodupb, baseb, Ob.okb, frmOk, V.okb, A.okb, hq.2, hxp.2] <;> decide)) ?_
                all_goals
                  clear xt hxt hxp xs hxs hxq hxl hc2 hq2 h h'
                  rintro F H ⟨q, c2, b2, Y2, xs, hxs, hq2, hc2, rfl, rfl⟩
                  have hxq := i32s_pl hxs
                  have hxl : xs.length = c2 := by rw [hxs, i32s_len, List.length_append, List.length_append, List.length_take, hc2]; simp; omega
                  obtain ⟨off, hoff⟩ : ∃ off, off = (if c = a then 0 else 0 + a * Tryd.prog.types[21].size) := ⟨_, rfl⟩
                  have hof2 : off + (m - a) * Tryd.prog.types[21].size ≤ os.length ∧ List.drop off (List.take (off + (m - a) * Tryd.prog.types[21].size) os) = i32s (O.drop a) := by
                    rw [s21, Nat.mul_one] at hoff
                    by_cases hca : c = a
                    · rw [if_pos hca] at hoff
                      have hma : m - a = 0 := by omega
                      rw [hma, hoff]
                      exact ⟨by omega, by rw [show O.drop a = [] from List.drop_eq_nil_of_le (by omega), i32s_nil]; simp⟩
                    · rw [if_neg hca, Nat.zero_add] at hoff
                      rw [hoff]
                      refine ⟨by rw [s21, hol]; omega, ?_⟩
                      rw [i32_sub hos (by omega) s21, List.take_of_length_le (by rw [List.length_drop]; omega)]
                  have ha1 : (a : Int).toNat = a := rfl
                  have e1 : decide (0 ≤ (a : Int) ∧ (a : Int) ≤ (m : Int)) = true := decide_eq_true (by omega)
                  conv => whnf
                  repeat' ((first | ((with_reducible refine y'r ?_ ?_); (· decide +kernel)) | ((with_reducible refine y'g ?_ ?_); (· exact ⟨_, rfl⟩)) | (with_reducible first | refine y'b ‹_› ?_ | refine y'n ‹_› ?_ | refine y'1 ‹_› ?_ | refine y'2 ‹_› ?_ | refine y'3 ?_ | refine y'4 ?_) | ((with_reducible refine y'n ?_ ?_); (· first | with_reducible assumption | exact decide_eq_true (by omega) | decide +kernel)) | (with_reducible first | refine y'n (y'7 ‹_› ‹_›) ?_ | refine y'v (y'8 ‹_› ‹_›) (fun s hs => ?_) | refine y'5 ‹_› ?_ | refine y'6 ‹_› ?_) | ((with_reducible apply y'o); (· exact g1)) | (refine ⟨_, g0, ?_⟩) | ((with_reducible refine y'p ?_ ?_); (· rfl)) | ((with_reducible refine y'q ?_ ?_); (· rfl)) | fail) <;> (conv => whnf))
                  rw [ha1, ← hoff]
                  refine y'n (decide_eq_true hof2.1) ?_
                  obtain ⟨nw, hnw⟩ : ∃ nw, nw = List.drop off (List.take (off + (m - a) * Tryd.prog.types[21].size) os) := ⟨_, rfl⟩
                  have hnw2 : nw = i32s (O.drop a) := hnw.trans hof2.2
                  have hnl : nw.length = m - a := by rw [hnw2, i32s_len, List.length_drop]; omega
                  conv => whnf
                  rw [← hnw]
                  clear hnw hof2 hoff ha1
                  refine y'c (fun h => ?_) (fun h => ?_)
                  · have h' := of_decide_eq_true h
                    conv => whnf
                    refine y'n (decide_eq_true (by rw [s21, hnl, hxl]; omega)) ?_
                    conv => whnf
                    repeat' ((first | ((with_reducible refine y'r ?_ ?_); (· decide +kernel)) | ((with_reducible refine y'g ?_ ?_); (· exact ⟨_, rfl⟩)) | (with_reducible first | refine y'b ‹_› ?_ | refine y'n ‹_› ?_ | refine y'1 ‹_› ?_ | refine y'2 ‹_› ?_ | refine y'3 ?_ | refine y'4 ?_) | ((with_reducible refine y'n ?_ ?_); (· first | with_reducible assumption | exact decide_eq_true (by omega) | decide +kernel)) | (with_reducible first | refine y'n (y'7 ‹_› ‹_›) ?_ | refine y'v (y'8 ‹_› ‹_›) (fun s hs => ?_) | refine y'5 ‹_› ?_ | refine y'6 ‹_› ?_) | ((with_reducible apply y'o); (· exact g1)) | (refine ⟨_, g0, ?_⟩) | ((with_reducible refine y'p ?_ ?_); (· rfl)) | ((with_reducible refine y'q ?_ ?_); (· rfl)) | fail) <;> (conv => whnf))
                    refine y'f (i32_ins (n := q) hxs hnw2 (by simp; omega) s21 (by rw [List.length_drop]; omega)) (fun xt hxt => ?_)
                    conv => whnf
                    repeat' ((first | ((with_reducible refine y'r ?_ ?_); (· decide +kernel)) | ((with_reducible refine y'g ?_ ?_); (· exact ⟨_, rfl⟩)) | (with_reducible first | refine y'b ‹_› ?_ | refine y'n ‹_› ?_ | refine y'1 ‹_› ?_ | refine y'2 ‹_› ?_ | refine y'3 ?_ | refine y'4 ?_) | ((with_reducible refine y'n ?_ ?_); (· first | with_reducible assumption | exact decide_eq_true (by omega) | decide +kernel)) | (with_reducible first | refine y'n (y'7 ‹_› ‹_›) ?_ | refine y'v (y'8 ‹_› ‹_›) (fun s hs => ?_) | refine y'5 ‹_› ?_ | refine y'6 ‹_› ?_) | ((with_reducible apply y'o); (· exact g1)) | (refine ⟨_, g0, ?_⟩) | ((with_reducible refine y'p ?_ ?_); (· rfl)) | ((with_reducible refine y'q ?_ ?_); (· rfl)) | fail) <;> (conv => whnf))
                    have hxp := i32s_pl hxt
                    exact ⟨n - (i + 1), by omega, Into.weak [1] [(0, .a (.rslc p n cap)), (3, .a (.slc 0 0 (q + (m - a)) c2)), (4, .a (.int .i64 ((i + 1 : Nat) : Int)))] [.cells xt 21 b2] ⟨i + 1, _, _, b2, _, xt, by omega, rfl, (by rw [hts, hie]; exact hxt), (by rw [hts, hie]; simp; omega), (by simp; omega), rfl, rfl⟩ ⟨rfl, rfl, congrArg (fun z => some (V.a (.int .i64 z))) hwi, trivial⟩ ⟨ren_pl hxp _ _ _, trivial⟩ (by simp [nodupb, baseb, Ob.okb, frmOk, V.okb, A.okb, hxp.2] <;> decide)⟩
                  · have h' := of_decide_eq_false h
                    conv => whnf
                    refine y'n (decide_eq_true (by simp [s21, b21, hxl]; omega)) ?_
                    intro cap' hcap'
                    conv => whnf
                    repeat' ((first | ((with_reducible refine y'r ?_ ?_); (· decide +kernel)) | ((with_reducible refine y'g ?_ ?_); (· exact ⟨_, rfl⟩)) | (with_reducible first | refine y'b ‹_› ?_ | refine y'n ‹_› ?_ | refine y'1 ‹_› ?_ | refine y'2 ‹_› ?_ | refine y'3 ?_ | refine y'4 ?_) | ((with_reducible refine y'n ?_ ?_); (· first | with_reducible assumption | exact decide_eq_true (by omega) | decide +kernel)) | (with_reducible first | refine y'n (y'7 ‹_› ‹_›) ?_ | refine y'v (y'8 ‹_› ‹_›) (fun s hs => ?_) | refine y'5 ‹_› ?_ | refine y'6 ‹_› ?_) | ((with_reducible apply y'o); (· exact g1)) | (refine ⟨_, g0, ?_⟩) | ((with_reducible refine y'p ?_ ?_); (· rfl)) | ((with_reducible refine y'q ?_ ?_); (· rfl)) | fail) <;> (conv => whnf))
                    refine y'f (i32_cat (n := q) (c := cap') hxs hnw2 (by simp; omega) s21 rfl) (fun xt hxt => ?_)
                    conv => whnf
                    repeat' ((first | ((with_reducible refine y'r ?_ ?_); (· decide +kernel)) | ((with_reducible refine y'g ?_ ?_); (· exact ⟨_, rfl⟩)) | (with_reducible first | refine y'b ‹_› ?_ | refine y'n ‹_› ?_ | refine y'1 ‹_› ?_ | refine y'2 ‹_› ?_ | refine y'3 ?_ | refine y'4 ?_) | ((with_reducible refine y'n ?_ ?_); (· first | with_reducible assumption | exact decide_eq_true (by omega) | decide +kernel)) | (with_reducible first | refine y'n (y'7 ‹_› ‹_›) ?_ | refine y'v (y'8 ‹_› ‹_›) (fun s hs => ?_) | refine y'5 ‹_› ?_ | refine y'6 ‹_› ?_) | ((with_reducible apply y'o); (· exact g1)) | (refine ⟨_, g0, ?_⟩) | ((with_reducible refine y'p ?_ ?_); (· rfl)) | ((with_reducible refine y'q ?_ ?_); (· rfl)) | fail) <;> (conv => whnf))
                    have hxp := i32s_pl hxt
                    exact ⟨n - (i + 1), by omega, Into.weak [2] [(0, .a (.rslc p n cap)), (3, .a (.slc 0 0 (q + (m - a)) cap')), (4, .a (.int .i64 ((i + 1 : Nat) : Int)))] [.cells xt 21 false] ⟨i + 1, _, _, false, _, xt, by omega, rfl, (by rw [hts, hie]; exact hxt), (by rw [hts, hie]; simp; omega), (by simp; omega), rfl, rfl⟩ ⟨rfl, rfl, congrArg (fun z => some (V.a (.int .i64 z))) hwi, trivial⟩ ⟨ren_pl hxp _ _ _, trivial⟩ (by simp [nodupb, baseb, Ob.okb, frmOk, V.okb, A.okb, hxp.2] <;> decide)⟩
    · have d1 : decide ((i : Int) < (n : Int)) = false := decide_eq_false (by omega)
      rw [show i = n by omega, List.take_of_length_le (by omega)] at hos hm
      have hk := hK os Y m c bk hos hm hc
      have g0 := True.intro
      have g1 := True.intro
      conv => whnf
      repeat' ((first | ((with_reducible refine y'r ?_ ?_); (· decide +kernel)) | ((with_reducible refine y'g ?_ ?_); (· exact ⟨_, rfl⟩)) | (with_reducible first | refine y'b ‹_› ?_ | refine y'n ‹_› ?_ | refine y'1 ‹_› ?_ | refine y'2 ‹_› ?_ | refine y'3 ?_ | refine y'4 ?_) | ((with_reducible refine y'n ?_ ?_); (· first | with_reducible assumption | exact decide_eq_true (by omega) | decide +kernel)) | (with_reducible first | refine y'n (y'7 ‹_› ‹_›) ?_ | refine y'v (y'8 ‹_› ‹_›) (fun s hs => ?_) | refine y'5 ‹_› ?_ | refine y'6 ‹_› ?_) | ((with_reducible apply y'o); (· exact g1)) | (refine ⟨_, g0, ?_⟩) | ((with_reducible refine y'p ?_ ?_); (· rfl)) | ((with_reducible refine y'q ?_ ?_); (· rfl)) | fail) <;> (conv => whnf))
      exact keepOf (v₀ := .a (.slc 0 0 m c)) [.cells os 21 bk] [0] rfl ⟨ren_pl hq _ _ _, trivial⟩ (by simp [nodupb, baseb, Ob.okb, frmOk, V.okb, A.okb, hq.2] <;> decide) hk
end
end Go.Proofs.YtimddbgnaeeggaaDoor.KD
namespace Go.Proofs.YtimddbgnaeeggaaDoor.KD
open Go.Eng
set_option maxRecDepth 100000
section
variable {ro : Addr → A → Prop}
set_option maxHeartbeats 2000000 in
theorem toldRu (L Z : List Nat) (ss : List A) (n3 c3 : Nat) (mk3 : Bool) (hss : ss = i32s (L ++ Z)) (hn3 : n3 = L.length) (hn39 : n3 ≤ 2000000) (hR : ∀ r ∈ L, r < 1114112) {K : V → Hp → Prop}
    (hK : K (.a (.str (bs (4 :: flat L)))) [.cells ss 21 mk3]) :
    Go.Eng.Fn Tryd.prog ro 56 [.g [.int .u8 4, .bool false, .nils, .nils, .slc 0 0 n3 c3]] [.cells ss 21 mk3] K := by
  have hs := i32s_pl hss
  have hs21 : Tryd.prog.types[21].size = 1 := rfl
  have g0 := True.intro
  refine Fn.weak ?_
  refine Fn.of 1 h56 rfl Tryd.func56 rfl (Nat.le_of_ble_eq_true rfl) ?_
  conv => whnf
  repeat' ((first | ((with_reducible refine y'r ?_ ?_); (· decide +kernel)) | ((with_reducible refine y'g ?_ ?_); (· exact ⟨_, rfl⟩)) | (with_reducible first | refine y'b ‹_› ?_ | refine y'n ‹_› ?_ | refine y'1 ‹_› ?_ | refine y'2 ‹_› ?_ | refine y'3 ?_ | refine y'4 ?_) | ((with_reducible refine y'n ?_ ?_); (· first | with_reducible assumption | exact decide_eq_true (by omega) | decide +kernel)) | (with_reducible first | refine y'n (y'7 ‹_› ‹_›) ?_ | refine y'v (y'8 ‹_› ‹_›) (fun s hs => ?_) | refine y'5 ‹_› ?_ | refine y'6 ‹_› ?_) | ((with_reducible apply y'o); (· exact g0)) | ((with_reducible refine y'p ?_ ?_); (· rfl)) | ((with_reducible refine y'q ?_ ?_); (· rfl)) | fail) <;> (conv => whnf))
  refine loopx_iter 1 ?_
  conv => whnf
  repeat' ((first | ((with_reducible refine y'r ?_ ?_); (· decide +kernel)) | ((with_reducible refine y'g ?_ ?_); (· exact ⟨_, rfl⟩)) | (with_reducible first | refine y'b ‹_› ?_ | refine y'n ‹_› ?_ | refine y'1 ‹_› ?_ | refine y'2 ‹_› ?_ | refine y'3 ?_ | refine y'4 ?_) | ((with_reducible refine y'n ?_ ?_); (· first | with_reducible assumption | exact decide_eq_true (by omega) | decide +kernel)) | (with_reducible first | refine y'n (y'7 ‹_› ‹_›) ?_ | refine y'v (y'8 ‹_› ‹_›) (fun s hs => ?_) | refine y'5 ‹_› ?_ | refine y'6 ‹_› ?_) | ((with_reducible apply y'o); (· exact g0)) | ((with_reducible refine y'p ?_ ?_); (· rfl)) | ((with_reducible refine y'q ?_ ?_); (· rfl)) | fail) <;> (conv => whnf))
  refine loopx_iter 1 ?_
  conv => whnf
  repeat' ((first | ((with_reducible refine y'r ?_ ?_); (· decide +kernel)) | ((with_reducible refine y'g ?_ ?_); (· exact ⟨_, rfl⟩)) | (with_reducible first | refine y'b ‹_› ?_ | refine y'n ‹_› ?_ | refine y'1 ‹_› ?_ | refine y'2 ‹_› ?_ | refine y'3 ?_ | refine y'4 ?_) | ((with_reducible refine y'n ?_ ?_); (· first | with_reducible assumption | exact decide_eq_true (by omega) | decide +kernel)) | (with_reducible first | refine y'n (y'7 ‹_› ‹_›) ?_ | refine y'v (y'8 ‹_› ‹_›) (fun s hs => ?_) | refine y'5 ‹_› ?_ | refine y'6 ‹_› ?_) | ((with_reducible apply y'o); (· exact g0)) | ((with_reducible refine y'p ?_ ?_); (· rfl)) | ((with_reducible refine y'q ?_ ?_); (· rfl)) | fail) <;> (conv => whnf))
  refine loopx_of (fun m F H => ∃ (i : Nat) (t : ByteArray), i ≤ n3 ∧ m = n3 - i ∧ t = bs (4 :: flat (L.take i)) ∧ F = [(1, .a (.ptr 1 0)), (3, .a (.str t)), (7, .a (.int .i64 i))] ∧ H = [.cells ss 21 mk3, .cells [.int .u8 4, .bool false, .nils, .nils, .slc 0 0 n3 c3] 57 false]) n3 ?_ ?_
  · exact Into.weak [0, 1] [(1, .a (.ptr 1 0)), (3, .a (.str (bs [4]))), (7, .a (.int .i64 (0 : Nat)))] [.cells ss 21 mk3, .cells [.int .u8 4, .bool false, .nils, .nils, .slc 0 0 n3 c3] 57 false] ⟨0, _, Nat.zero_le _, rfl, by rw [List.take_zero, flat_nil], rfl, rfl⟩ ⟨rfl, rfl, rfl, trivial⟩ ⟨ren_pl hs _ _ _, rfl, trivial⟩ (by simp [nodupb, baseb, Ob.okb, frmOk, V.okb, A.okb, hs.2] <;> decide)
  · rintro m F H ⟨i, t, hi, rfl, ht, rfl, rfl⟩
    by_cases hin : i < n3
    · have d1 : decide ((i : Int) < (n3 : Int)) = true := decide_eq_true (by omega)
      have d2 : decide (0 ≤ (i : Int) ∧ (i : Int) < (n3 : Int)) = true := decide_eq_true (by omega)
      have hw : IntKind.i64.wrap (↑i + 1) = ((i + 1 : Nat) : Int) := by rw [i64w (by omega) (by omega)]; rfl
      have htz : t.size ≤ 10000000 := by
        have := flat_len4 (L.take i)
        rw [List.length_take] at this
        rw [ht, bs_size, List.length_cons]
        omega
      obtain ⟨e, he⟩ : ∃ e, L[i]? = some e := ⟨_, List.getElem?_eq_getElem (by omega)⟩
      clear g0
      have g0 : ss[0 + (i : Int).toNat * Tryd.prog.types[21].size]? = some (.int .i32 (e : Int)) := by
        rw [Int.toNat_natCast, hs21, Nat.zero_add, Nat.mul_one]
        exact i32s_get hss (by rw [List.getElem?_append_left (by omega)]; exact he)
      have hts : L.take (i + 1) = L.take i ++ [e] := by rw [List.take_add_one, he]; rfl
      have hnx : t ++ bs (enc e) = bs (4 :: flat (L.take (i + 1))) := by rw [ht, bs_append, hts, flat_append, flat_one]; rfl
      have he4 := enc_le4 e
      have hes : (bs (enc e)).size = (enc e).length := bs_size _
      have kc := @coded1 ro e (hR e (List.mem_of_getElem? he))
      generalize bs (enc e) = es at *
      conv => whnf
      repeat' ((first | ((with_reducible refine y'r ?_ ?_); (· decide +kernel)) | ((with_reducible refine y'g ?_ ?_); (· exact ⟨_, rfl⟩)) | (with_reducible first | refine y'b ‹_› ?_ | refine y'n ‹_› ?_ | refine y'1 ‹_› ?_ | refine y'2 ‹_› ?_ | refine y'3 ?_ | refine y'4 ?_) | ((with_reducible refine y'n ?_ ?_); (· first | with_reducible assumption | exact decide_eq_true (by omega) | decide +kernel)) | (with_reducible first | refine y'n (y'7 ‹_› ‹_›) ?_ | refine y'v (y'8 ‹_› ‹_›) (fun s hs => ?_) | refine y'5 ‹_› ?_ | refine y'6 ‹_› ?_) | ((with_reducible apply y'o); (· exact g0)) | ((with_reducible refine y'p ?_ ?_); (· rfl)) | ((with_reducible refine y'q ?_ ?_); (· rfl)) | fail) <;> (conv => whnf))
      refine Fn.frame [] (by rfl) (by exact trivial) (by rfl) (kc ?_)
      conv => whnf
      repeat' ((first | ((with_reducible refine y'r ?_ ?_); (· decide +kernel)) | ((with_reducible refine y'g ?_ ?_); (· exact ⟨_, rfl⟩)) | (with_reducible first | refine y'b ‹_› ?_ | refine y'n ‹_› ?_ | refine y'1 ‹_› ?_ | refine y'2 ‹_› ?_ | refine y'3 ?_ | refine y'4 ?_) | ((with_reducible refine y'n ?_ ?_); (· first | with_reducible assumption | exact decide_eq_true (by omega) | decide +kernel)) | (with_reducible first | refine y'n (y'7 ‹_› ‹_›) ?_ | refine y'v (y'8 ‹_› ‹_›) (fun s hs => ?_) | refine y'5 ‹_› ?_ | refine y'6 ‹_› ?_) | ((with_reducible apply y'o); (· exact g0)) | ((with_reducible refine y'p ?_ ?_); (· rfl)) | ((with_reducible refine y'q ?_ ?_); (· rfl)) | fail) <;> (conv => whnf))
      exact ⟨n3 - (i + 1), by omega, Into.weak [0, 1] [(1, .a (.ptr 1 0)), (3, .a (.str (t ++ es))), (7, .a (.int .i64 ((i + 1 : Nat) : Int)))] [.cells ss 21 mk3, .cells [.int .u8 4, .bool false, .nils, .nils, .slc 0 0 n3 c3] 57 false] ⟨i + 1, _, by omega, rfl, hnx, rfl, rfl⟩ ⟨rfl, rfl, congrArg (fun z => some (V.a (.int .i64 z))) hw, trivial⟩ ⟨ren_pl hs _ _ _, rfl, trivial⟩ (by simp [nodupb, baseb, Ob.okb, frmOk, V.okb, A.okb, hs.2] <;> decide)⟩
    · have d1 : decide ((i : Int) < (n3 : Int)) = false := decide_eq_false (by omega)
      rw [List.take_of_length_le (by omega)] at ht
      have g0 := True.intro
      rw [← ht] at hK
      conv => whnf
      repeat' ((first | ((with_reducible refine y'r ?_ ?_); (· decide +kernel)) | ((with_reducible refine y'g ?_ ?_); (· exact ⟨_, rfl⟩)) | (with_reducible first | refine y'b ‹_› ?_ | refine y'n ‹_› ?_ | refine y'1 ‹_› ?_ | refine y'2 ‹_› ?_ | refine y'3 ?_ | refine y'4 ?_) | ((with_reducible refine y'n ?_ ?_); (· first | with_reducible assumption | exact decide_eq_true (by omega) | decide +kernel)) | (with_reducible first | refine y'n (y'7 ‹_› ‹_›) ?_ | refine y'v (y'8 ‹_› ‹_›) (fun s hs => ?_) | refine y'5 ‹_› ?_ | refine y'6 ‹_› ?_) | ((with_reducible apply y'o); (· exact g0)) | ((with_reducible refine y'p ?_ ?_); (· rfl)) | ((with_reducible refine y'q ?_ ?_); (· rfl)) | fail) <;> (conv => whnf))
      exact keepOf (v₀ := .a (.str t)) [.cells ss 21 mk3] [0] rfl ⟨ren_pl hs _ _ _, trivial⟩ (by simp [nodupb, baseb, Ob.okb, frmOk, V.okb, A.okb, hs.2] <;> decide) hK
set_option maxHeartbeats 4000000 in
theorem refRunesS (Z : List Int) (X : List Nat) (cs : List A) (n cap : Nat) (mk : Bool) (hcs : cs = z32 Z ++ i32s X) (hn : n = Z.length) (hn9 : n ≤ 70368744177664) {K : V → Hp → Prop}
    (hK : K (.t [.a (.str (bs (rnO Z).1)), .a (.int .i64 (rnO Z).2)]) [.cells cs 21 mk]) :
    Go.Eng.Fn Tryd.prog ro 38 [.a (.slc 0 0 n cap)] [.cells cs 21 mk] K := by
  have hz : Rz Z cs := hcs ▸ Rz.of (i32s_pl rfl)
  have hp := hz.pl
  have hs21 : Tryd.prog.types[21].size = 1 := rfl
  have g0 := True.intro
  refine Fn.weak ?_
  refine Fn.of 1 (gOf []) rfl Tryd.func38 rfl (Nat.le_of_ble_eq_true rfl) ?_
  conv => whnf
  repeat' ((first | ((with_reducible refine y'r ?_ ?_); (· decide +kernel)) | ((with_reducible refine y'g ?_ ?_); (· exact ⟨_, rfl⟩)) | (with_reducible first | refine y'b ‹_› ?_ | refine y'n ‹_› ?_ | refine y'1 ‹_› ?_ | refine y'2 ‹_› ?_ | refine y'3 ?_ | refine y'4 ?_) | ((with_reducible refine y'n ?_ ?_); (· first | with_reducible assumption | exact decide_eq_true (by omega) | decide +kernel)) | (with_reducible first | refine y'n (y'7 ‹_› ‹_›) ?_ | refine y'v (y'8 ‹_› ‹_›) (fun s hs => ?_) | refine y'5 ‹_› ?_ | refine y'6 ‹_› ?_) | ((with_reducible apply y'o); (· exact g0)) | ((with_reducible refine y'p ?_ ?_); (· rfl)) | ((with_reducible refine y'q ?_ ?_); (· rfl)) | fail) <;> (conv => whnf))
  refine loopx_of (fun k F H => ∃ i : Nat, i ≤ n ∧ k = n - i ∧ allV (Z.take i) = true ∧ F = [(0, .a (.slc 0 0 n cap)), (4, .a (.int .i64 i))] ∧ H = [.cells cs 21 mk]) n ?_ ?_
  · exact Into.weak [0] [(0, .a (.slc 0 0 n cap)), (4, .a (.int .i64 (0 : Nat)))] [.cells cs 21 mk] ⟨0, Nat.zero_le _, rfl, rfl, rfl, rfl⟩ ⟨rfl, rfl, trivial⟩ ⟨ren_pl hp _ _ _, trivial⟩ (by simp [nodupb, baseb, Ob.okb, frmOk, V.okb, E.okb, A.okb, hp.2] <;> decide)
  · rintro k F H ⟨i, hi, rfl, hv, rfl, rfl⟩
    by_cases hin : i < n
    · have d1 : decide ((i : Int) < (n : Int)) = true := decide_eq_true (by omega)
      have d2 : decide (0 ≤ (i : Int) ∧ (i : Int) < (n : Int)) = true := decide_eq_true (by omega)
      have hwi : IntKind.i64.wrap ((i : Int) + 1) = ((i + 1 : Nat) : Int) := by rw [i64w (by omega) (by omega)]; rfl
      obtain ⟨z, hzi⟩ : ∃ z, Z[i]? = some z := ⟨_, List.getElem?_eq_getElem (by omega)⟩
      clear g0
      have g0 : cs[0 + (i : Int).toNat * Tryd.prog.types[21].size]? = some (.int .i32 z) := by rw [Int.toNat_natCast, hs21, Nat.zero_add, Nat.mul_one]; exact hz.get i z hzi
      have kv := @isRune1 ro z
      have htk : Z.take (i + 1) = Z.take i ++ [z] := by rw [List.take_add_one, hzi]; rfl
      obtain ⟨b, hb⟩ : ∃ b, b = vrI z := ⟨_, rfl⟩
      rw [← hb] at kv
      cases b with
      | true =>
        conv => whnf
        repeat' ((first | ((with_reducible refine y'r ?_ ?_); (· decide +kernel)) | ((with_reducible refine y'g ?_ ?_); (· exact ⟨_, rfl⟩)) | (with_reducible first | refine y'b ‹_› ?_ | refine y'n ‹_› ?_ | refine y'1 ‹_› ?_ | refine y'2 ‹_› ?_ | refine y'3 ?_ | refine y'4 ?_) | ((with_reducible refine y'n ?_ ?_); (· first | with_reducible assumption | exact decide_eq_true (by omega) | decide +kernel)) | (with_reducible first | refine y'n (y'7 ‹_› ‹_›) ?_ | refine y'v (y'8 ‹_› ‹_›) (fun s hs => ?_) | refine y'5 ‹_› ?_ | refine y'6 ‹_› ?_) | ((with_reducible apply y'o); (· exact g0)) | ((with_reducible refine y'p ?_ ?_); (· rfl)) | ((with_reducible refine y'q ?_ ?_); (· rfl)) | (refine Fn.frame [] (by rfl) (by exact trivial) (by rfl) (kv ?_)) | fail) <;> (conv => whnf))
        exact ⟨n - (i + 1), by omega, Into.weak [0] [(0, .a (.slc 0 0 n cap)), (4, .a (.int .i64 ((i + 1 : Nat) : Int)))] [.cells cs 21 mk] ⟨i + 1, by omega, rfl, by rw [htk]; unfold allV at hv ⊢; rw [List.all_append, hv, List.all_cons, ← hb]; rfl, rfl, rfl⟩ ⟨rfl, congrArg (fun z => some (V.a (.int .i64 z))) hwi, trivial⟩ ⟨ren_pl hp _ _ _, trivial⟩ (by simp [nodupb, baseb, Ob.okb, frmOk, V.okb, E.okb, A.okb, hp.2] <;> decide)⟩
      | false =>
        have hno : allV Z = false := by
          cases h : allV Z with
          | false => rfl
          | true =>
            unfold allV at h
            have := List.all_eq_true.1 h z (List.mem_of_getElem? hzi)
            rw [← hb] at this; cases this
        rw [rnO_arg hno] at hK
        conv => whnf
        repeat' ((first | ((with_reducible refine y'r ?_ ?_); (· decide +kernel)) | ((with_reducible refine y'g ?_ ?_); (· exact ⟨_, rfl⟩)) | (with_reducible first | refine y'b ‹_› ?_ | refine y'n ‹_› ?_ | refine y'1 ‹_› ?_ | refine y'2 ‹_› ?_ | refine y'3 ?_ | refine y'4 ?_) | ((with_reducible refine y'n ?_ ?_); (· first | with_reducible assumption | exact decide_eq_true (by omega) | decide +kernel)) | (with_reducible first | refine y'n (y'7 ‹_› ‹_›) ?_ | refine y'v (y'8 ‹_› ‹_›) (fun s hs => ?_) | refine y'5 ‹_› ?_ | refine y'6 ‹_› ?_) | ((with_reducible apply y'o); (· exact g0)) | ((with_reducible refine y'p ?_ ?_); (· rfl)) | ((with_reducible refine y'q ?_ ?_); (· rfl)) | (refine Fn.frame [] (by rfl) (by exact trivial) (by rfl) (kv ?_)) | fail) <;> (conv => whnf))
        exact keepOf (v₀ := .t [.a (.str (bs [])), .a (.int .i64 1)]) [.cells cs 21 mk] [0] rfl ⟨ren_pl hp _ _ _, trivial⟩ (by simp [nodupb, baseb, Ob.okb, frmOk, V.okb, E.okb, A.okb, hp.2] <;> decide) hK
    · have d1 : decide ((i : Int) < (n : Int)) = false := decide_eq_false (by omega)
      rw [List.take_of_length_le (by omega)] at hv
      obtain ⟨L, rfl, hL⟩ := allV_nat hv
      rw [rnO_nat hL] at hK
      rw [List.length_map] at hn
      have hR : ∀ r ∈ L, r < 1114112 := fun r hr => by have := hL r hr; unfold vr at this; omega
      have g0 := True.intro
      conv => whnf
      repeat' ((first | ((with_reducible refine y'r ?_ ?_); (· decide +kernel)) | ((with_reducible refine y'g ?_ ?_); (· exact ⟨_, rfl⟩)) | (with_reducible first | refine y'b ‹_› ?_ | refine y'n ‹_› ?_ | refine y'1 ‹_› ?_ | refine y'2 ‹_› ?_ | refine y'3 ?_ | refine y'4 ?_) | ((with_reducible refine y'n ?_ ?_); (· first | with_reducible assumption | exact decide_eq_true (by omega) | decide +kernel)) | (with_reducible first | refine y'n (y'7 ‹_› ‹_›) ?_ | refine y'v (y'8 ‹_› ‹_›) (fun s hs => ?_) | refine y'5 ‹_› ?_ | refine y'6 ‹_› ?_) | ((with_reducible apply y'o); (· exact g0)) | ((with_reducible refine y'p ?_ ?_); (· rfl)) | ((with_reducible refine y'q ?_ ?_); (· rfl)) | fail) <;> (conv => whnf))
      have hrs : cs = i32s (L ++ X) := by rw [hcs, z32_i32, i32s_append]
      refine Fn.frame [0] (by rfl) (by exact ⟨ren_pl hp _ _ _, trivial⟩) (by simp [nodupb, V.okb, A.okb, Ob.okb, hp.2] <;> decide) (rising1 L X cs n cap mk hrs hn hn9 hR (fun os Y m c mk' hos hm hc => ?_))
      have hop := i32s_pl hos
      have hRO : ∀ r ∈ insL L, r < 1114112 := fun r hr => hR r ((insL_ok L).2 r |>.1 hr)
      have hmf : m ≤ 2000000 := by rw [hm]; exact Nat.le_trans (insL_few hR) (by decide)
      have kt := @toldRu ro (insL L) Y os m c mk' hos hm hmf hRO
      have hsz : (bs (4 :: flat (insL L))).size = (flat (insL L)).length + 1 := by rw [bs_size]; rfl
      generalize insL L = O at *
      conv => whnf
      repeat' ((first | ((with_reducible refine y'r ?_ ?_); (· decide +kernel)) | ((with_reducible refine y'g ?_ ?_); (· exact ⟨_, rfl⟩)) | (with_reducible first | refine y'b ‹_› ?_ | refine y'n ‹_› ?_ | refine y'1 ‹_› ?_ | refine y'2 ‹_› ?_ | refine y'3 ?_ | refine y'4 ?_) | ((with_reducible refine y'n ?_ ?_); (· first | with_reducible assumption | exact decide_eq_true (by omega) | decide +kernel)) | (with_reducible first | refine y'n (y'7 ‹_› ‹_›) ?_ | refine y'v (y'8 ‹_› ‹_›) (fun s hs => ?_) | refine y'5 ‹_› ?_ | refine y'6 ‹_› ?_) | ((with_reducible apply y'o); (· exact g0)) | ((with_reducible refine y'p ?_ ?_); (· rfl)) | ((with_reducible refine y'q ?_ ?_); (· rfl)) | fail) <;> (conv => whnf))
      refine Fn.frame [1] (by rfl) (by exact ⟨ren_pl hop _ _ _, trivial⟩) (by simp [nodupb, V.okb, A.okb, Ob.okb, hop.2] <;> decide) (kt ?_)
      by_cases hlt : (flat O).length < 40
      · rw [if_pos hlt] at hK
        have c9 : decide (((bs (4 :: flat O)).size : Int) > 40) = false := decide_eq_false (by omega)
        generalize bs (4 :: flat O) = u at *
        conv => whnf
        repeat' ((first | ((with_reducible refine y'r ?_ ?_); (· decide +kernel)) | ((with_reducible refine y'g ?_ ?_); (· exact ⟨_, rfl⟩)) | (with_reducible first | refine y'b ‹_› ?_ | refine y'n ‹_› ?_ | refine y'1 ‹_› ?_ | refine y'2 ‹_› ?_ | refine y'3 ?_ | refine y'4 ?_) | ((with_reducible refine y'n ?_ ?_); (· first | with_reducible assumption | exact decide_eq_true (by omega) | decide +kernel)) | (with_reducible first | refine y'n (y'7 ‹_› ‹_›) ?_ | refine y'v (y'8 ‹_› ‹_›) (fun s hs => ?_) | refine y'5 ‹_› ?_ | refine y'6 ‹_› ?_) | ((with_reducible apply y'o); (· exact g0)) | ((with_reducible refine y'p ?_ ?_); (· rfl)) | ((with_reducible refine y'q ?_ ?_); (· rfl)) | fail) <;> (conv => whnf))
        exact keepOf (v₀ := .t [.a (.str u), .a (.int .i64 0)]) [.cells cs 21 mk] [0] rfl ⟨ren_pl hp _ _ _, trivial⟩ (by simp [nodupb, baseb, Ob.okb, frmOk, V.okb, E.okb, A.okb, hp.2] <;> decide) hK
      · rw [if_neg hlt] at hK
        have c9 : decide (((bs (4 :: flat O)).size : Int) > 40) = true := decide_eq_true (by omega)
        generalize bs (4 :: flat O) = u at *
        conv => whnf
        repeat' ((first | ((with_reducible refine y'r ?_ ?_); (· decide +kernel)) | ((with_reducible refine y'g ?_ ?_); (· exact ⟨_, rfl⟩)) | (with_reducible first | refine y'b ‹_› ?_ | refine y'n ‹_› ?_ | refine y'1 ‹_› ?_ | refine y'2 ‹_› ?_ | refine y'3 ?_ | refine y'4 ?_) | ((with_reducible refine y'n ?_ ?_); (· first | with_reducible assumption | exact decide_eq_true (by omega) | decide +kernel)) | (with_reducible first | refine y'n (y'7 ‹_› ‹_›) ?_ | refine y'v (y'8 ‹_› ‹_›) (fun s hs => ?_) | refine y'5 ‹_› ?_ | refine y'6 ‹_› ?_) | ((with_reducible apply y'o); (· exact g0)) | ((with_reducible refine y'p ?_ ?_); (· rfl)) | ((with_reducible refine y'q ?_ ?_); (· rfl)) | fail) <;> (conv => whnf))
        exact keepOf (v₀ := .t [.a (.str (bs [])), .a (.int .i64 82)]) [.cells cs 21 mk] [0] rfl ⟨ren_pl hp _ _ _, trivial⟩ (by simp [nodupb, baseb, Ob.okb, frmOk, V.okb, E.okb, A.okb, hp.2] <;> decide) hK
set_option maxHeartbeats 4000000 in
theorem refRunesR (Z : List Int) (p : Addr) (n cap : Nat) (hro : ∀ (i : Nat) (z : Int), Z[i]? = some z → ro (p.add i) (.int .i32 z)) (hn : n = Z.length) (hn9 : n ≤ 70368744177664) {K : V → Hp → Prop}
    (hK : K (.t [.a (.str (bs (rnO Z).1)), .a (.int .i64 (rnO Z).2)]) []) :
    Go.Eng.Fn Tryd.prog ro 38 [.a (.rslc p n cap)] [] K := by
  have hs21 : Tryd.prog.types[21].size = 1 := rfl
  have g0 := True.intro
  refine Fn.weak ?_
  refine Fn.of 0 (gOf []) rfl Tryd.func38 rfl (Nat.le_of_ble_eq_true rfl) ?_
  conv => whnf
  repeat' ((first | ((with_reducible refine y'r ?_ ?_); (· decide +kernel)) | ((with_reducible refine y'g ?_ ?_); (· exact ⟨_, rfl⟩)) | (with_reducible first | refine y'b ‹_› ?_ | refine y'n ‹_› ?_ | refine y'1 ‹_› ?_ | refine y'2 ‹_› ?_ | refine y'3 ?_ | refine y'4 ?_) | ((with_reducible refine y'n ?_ ?_); (· first | with_reducible assumption | exact decide_eq_true (by omega) | decide +kernel)) | (with_reducible first | refine y'n (y'7 ‹_› ‹_›) ?_ | refine y'v (y'8 ‹_› ‹_›) (fun s hs => ?_) | refine y'5 ‹_› ?_ | refine y'6 ‹_› ?_) | ((with_reducible apply y'o); (· exact g0)) | ((with_reducible refine y'p ?_ ?_); (· rfl)) | ((with_reducible refine y'q ?_ ?_); (· rfl)) | fail) <;> (conv => whnf))
  refine loopx_of (fun k F H => ∃ i : Nat, i ≤ n ∧ k = n - i ∧ allV (Z.take i) = true ∧ F = [(0, .a (.rslc p n cap)), (4, .a (.int .i64 i))] ∧ H = []) n ?_ ?_
  · exact Into.weak [] [(0, .a (.rslc p n cap)), (4, .a (.int .i64 (0 : Nat)))] [] ⟨0, Nat.zero_le _, rfl, rfl, rfl, rfl⟩ ⟨rfl, rfl, trivial⟩ trivial rfl
  · rintro k F H ⟨i, hi, rfl, hv, rfl, rfl⟩
    by_cases hin : i < n
    · have d1 : decide ((i : Int) < (n : Int)) = true := decide_eq_true (by omega)
      have d2 : decide (0 ≤ (i : Int) ∧ (i : Int) < (n : Int)) = true := decide_eq_true (by omega)
      have hwi : IntKind.i64.wrap ((i : Int) + 1) = ((i + 1 : Nat) : Int) := by rw [i64w (by omega) (by omega)]; rfl
      obtain ⟨z, hzi⟩ : ∃ z, Z[i]? = some z := ⟨_, List.getElem?_eq_getElem (by omega)⟩
      clear g0
      have g0 : ro (p.add ((i : Int).toNat * Tryd.prog.types[21].size)) (.int .i32 z) := by rw [Int.toNat_natCast, hs21, Nat.mul_one]; exact hro i z hzi
      have kv := @isRune1 ro z
      have htk : Z.take (i + 1) = Z.take i ++ [z] := by rw [List.take_add_one, hzi]; rfl
      obtain ⟨b, hb⟩ : ∃ b, b = vrI z := ⟨_, rfl⟩
      rw [← hb] at kv
      cases b with
      | true =>
        conv => whnf
        repeat' ((first | ((with_reducible refine y'r ?_ ?_); (· decide +kernel)) | ((with_reducible refine y'g ?_ ?_); (· exact ⟨_, rfl⟩)) | (with_reducible first | refine y'b ‹_› ?_ | refine y'n ‹_› ?_ | refine y'1 ‹_› ?_ | refine y'2 ‹_› ?_ | refine y'3 ?_ | refine y'4 ?_) | ((with_reducible refine y'n ?_ ?_); (· first | with_reducible assumption | exact decide_eq_true (by omega) | decide +kernel)) | (with_reducible first | refine y'n (y'7 ‹_› ‹_›) ?_ | refine y'v (y'8 ‹_› ‹_›) (fun s hs => ?_) | refine y'5 ‹_› ?_ | refine y'6 ‹_› ?_) | ((with_reducible apply y'o); (· exact g0)) | ((with_reducible refine y'p ?_ ?_); (· rfl)) | ((with_reducible refine y'q ?_ ?_); (· rfl)) | (refine ⟨_, g0, ?_⟩) | (refine Fn.frame [] (by rfl) (by exact trivial) (by rfl) (kv ?_)) | fail) <;> (conv => whnf))
        exact ⟨n - (i + 1), by omega, Into.weak [] [(0, .a (.rslc p n cap)), (4, .a (.int .i64 ((i + 1 : Nat) : Int)))] [] ⟨i + 1, by omega, rfl, by rw [htk]; unfold allV at hv ⊢; rw [List.all_append, hv, List.all_cons, ← hb]; rfl, rfl, rfl⟩ ⟨rfl, congrArg (fun z => some (V.a (.int .i64 z))) hwi, trivial⟩ trivial rfl⟩
      | false =>
        have hno : allV Z = false := by
          cases h : allV Z with
          | false => rfl
          | true =>
            unfold allV at h
            have := List.all_eq_true.1 h z (List.mem_of_getElem? hzi)
            rw [← hb] at this; cases this
        rw [rnO_arg hno] at hK
        conv => whnf
        repeat' ((first | ((with_reducible refine y'r ?_ ?_); (· decide +kernel)) | ((with_reducible refine y'g ?_ ?_); (· exact ⟨_, rfl⟩)) | (with_reducible first | refine y'b ‹_› ?_ | refine y'n ‹_› ?_ | refine y'1 ‹_› ?_ | refine y'2 ‹_› ?_ | refine y'3 ?_ | refine y'4 ?_) | ((with_reducible refine y'n ?_ ?_); (· first | with_reducible assumption | exact decide_eq_true (by omega) | decide +kernel)) | (with_reducible first | refine y'n (y'7 ‹_› ‹_›) ?_ | refine y'v (y'8 ‹_› ‹_›) (fun s hs => ?_) | refine y'5 ‹_› ?_ | refine y'6 ‹_› ?_) | ((with_reducible apply y'o); (· exact g0)) | ((with_reducible refine y'p ?_ ?_); (· rfl)) | ((with_reducible refine y'q ?_ ?_); (· rfl)) | (refine ⟨_, g0, ?_⟩) | (refine Fn.frame [] (by rfl) (by exact trivial) (by rfl) (kv ?_)) | fail) <;> (conv => whnf))
        exact keepOf (v₀ := .t [.a (.str (bs [])), .a (.int .i64 1)]) [] [] rfl trivial rfl hK
    · have d1 : decide ((i : Int) < (n : Int)) = false := decide_eq_false (by omega)
      rw [List.take_of_length_le (by omega)] at hv
      obtain ⟨L, rfl, hL⟩ := allV_nat hv
      rw [rnO_nat hL] at hK
      rw [List.length_map] at hn
      have hR : ∀ r ∈ L, r < 1114112 := fun r hr => by have := hL r hr; unfold vr at this; omega
      have g0 := True.intro
      conv => whnf
      repeat' ((first | ((with_reducible refine y'r ?_ ?_); (· decide +kernel)) | ((with_reducible refine y'g ?_ ?_); (· exact ⟨_, rfl⟩)) | (with_reducible first | refine y'b ‹_› ?_ | refine y'n ‹_› ?_ | refine y'1 ‹_› ?_ | refine y'2 ‹_› ?_ | refine y'3 ?_ | refine y'4 ?_) | ((with_reducible refine y'n ?_ ?_); (· first | with_reducible assumption | exact decide_eq_true (by omega) | decide +kernel)) | (with_reducible first | refine y'n (y'7 ‹_› ‹_›) ?_ | refine y'v (y'8 ‹_› ‹_›) (fun s hs => ?_) | refine y'5 ‹_› ?_ | refine y'6 ‹_› ?_) | ((with_reducible apply y'o); (· exact g0)) | ((with_reducible refine y'p ?_ ?_); (· rfl)) | ((with_reducible refine y'q ?_ ?_); (· rfl)) | fail) <;> (conv => whnf))
      refine Fn.frame [] (by rfl) (by exact trivial) (by rfl) (risingR L p n cap hn hn9 hR (fun i r hr => hro i r (by rw [List.getElem?_map, hr]; rfl)) (fun os Y m c mk' hos hm hc => ?_))
      have hop := i32s_pl hos
      have hRO : ∀ r ∈ insL L, r < 1114112 := fun r hr => hR r ((insL_ok L).2 r |>.1 hr)
      have hmf : m ≤ 2000000 := by rw [hm]; exact Nat.le_trans (insL_few hR) (by decide)
      have kt := @toldRu ro (insL L) Y os m c mk' hos hm hmf hRO
      have hsz : (bs (4 :: flat (insL L))).size = (flat (insL L)).length + 1 := by rw [bs_size]; rfl
      generalize insL L = O at *
      conv => whnf
      repeat' ((first | ((with_reducible refine y'r ?_ ?_); (· decide +kernel)) | ((with_reducible refine y'g ?_ ?_); (· exact ⟨_, rfl⟩)) | (with_reducible first | refine y'b ‹_› ?_ | refine y'n ‹_› ?_ | refine y'1 ‹_› ?_ | refine y'2 ‹_› ?_ | refine y'3 ?_ | refine y'4 ?_) | ((with_reducible refine y'n ?_ ?_); (· first | with_reducible assumption | exact decide_eq_true (by omega) | decide +kernel)) | (with_reducible first | refine y'n (y'7 ‹_› ‹_›) ?_ | refine y'v (y'8 ‹_› ‹_›) (fun s hs => ?_) | refine y'5 ‹_› ?_ | refine y'6 ‹_› ?_) | ((with_reducible apply y'o); (· exact g0)) | ((with_reducible refine y'p ?_ ?_); (· rfl)) | ((with_reducible refine y'q ?_ ?_); (· rfl)) | fail) <;> (conv => whnf))
      refine Fn.frame [0] (by rfl) (by exact ⟨ren_pl hop _ _ _, trivial⟩) (by simp [nodupb, V.okb, A.okb, Ob.okb, hop.2] <;> decide) (kt ?_)
      by_cases hlt : (flat O).length < 40
      · rw [if_pos hlt] at hK
        have c9 : decide (((bs (4 :: flat O)).size : Int) > 40) = false := decide_eq_false (by omega)
        generalize bs (4 :: flat O) = u at *
        conv => whnf
        repeat' ((first | ((with_reducible refine y'r ?_ ?_); (· decide +kernel)) | ((with_reducible refine y'g ?_ ?_); (· exact ⟨_, rfl⟩)) | (with_reducible first | refine y'b ‹_› ?_ | refine y'n ‹_› ?_ | refine y'1 ‹_› ?_ | refine y'2 ‹_› ?_ | refine y'3 ?_ | refine y'4 ?_) | ((with_reducible refine y'n ?_ ?_); (· first | with_reducible assumption | exact decide_eq_true (by omega) | decide +kernel)) | (with_reducible first | refine y'n (y'7 ‹_› ‹_›) ?_ | refine y'v (y'8 ‹_› ‹_›) (fun s hs => ?_) | refine y'5 ‹_› ?_ | refine y'6 ‹_› ?_) | ((with_reducible apply y'o); (· exact g0)) | ((with_reducible refine y'p ?_ ?_); (· rfl)) | ((with_reducible refine y'q ?_ ?_); (· rfl)) | fail) <;> (conv => whnf))
        exact keepOf (v₀ := .t [.a (.str u), .a (.int .i64 0)]) [] [] rfl trivial rfl hK
      · rw [if_neg hlt] at hK
        have c9 : decide (((bs (4 :: flat O)).size : Int) > 40) = true := decide_eq_true (by omega)
        generalize bs (4 :: flat O) = u at *
        conv => whnf
        repeat' ((first | ((with_reducible refine y'r ?_ ?_); (· decide +kernel)) | ((with_reducible refine y'g ?_ ?_); (· exact ⟨_, rfl⟩)) | (with_reducible first | refine y'b ‹_› ?_ | refine y'n ‹_› ?_ | refine y'1 ‹_› ?_ | refine y'2 ‹_› ?_ | refine y'3 ?_ | refine y'4 ?_) | ((with_reducible refine y'n ?_ ?_); (· first | with_reducible assumption | exact decide_eq_true (by omega) | decide +kernel)) | (with_reducible first | refine y'n (y'7 ‹_› ‹_›) ?_ | refine y'v (y'8 ‹_› ‹_›) (fun s hs => ?_) | refine y'5 ‹_› ?_ | refine y'6 ‹_› ?_) | ((with_reducible apply y'o); (· exact g0)) | ((with_reducible refine y'p ?_ ?_); (· rfl)) | ((with_reducible refine y'q ?_ ?_); (· rfl)) | fail) <;> (conv => whnf))
        exact keepOf (v₀ := .t [.a (.str (bs [])), .a (.int .i64 82)]) [] [] rfl trivial rfl hK
set_option maxHeartbeats 400000 in
theorem risingN {K : V → Hp → Prop} (hK : K (.a .nils) []) : Go.Eng.Fn Tryd.prog ro 67 [.a .nils] [] K := by
  have g0 := True.intro
  refine Fn.weak ?_
  refine Fn.of 0 h67 rfl Tryd.func67 rfl (Nat.le_of_ble_eq_true rfl) ?_
  conv => whnf
  repeat' ((first | ((with_reducible refine y'r ?_ ?_); (· decide +kernel)) | ((with_reducible refine y'g ?_ ?_); (· exact ⟨_, rfl⟩)) | (with_reducible first | refine y'b ‹_› ?_ | refine y'n ‹_› ?_ | refine y'1 ‹_› ?_ | refine y'2 ‹_› ?_ | refine y'3 ?_ | refine y'4 ?_) | ((with_reducible refine y'n ?_ ?_); (· first | with_reducible assumption | exact decide_eq_true (by omega) | decide +kernel)) | (with_reducible first | refine y'n (y'7 ‹_› ‹_›) ?_ | refine y'v (y'8 ‹_› ‹_›) (fun s hs => ?_) | refine y'5 ‹_› ?_ | refine y'6 ‹_› ?_) | ((with_reducible apply y'o); (· exact g0)) | ((with_reducible refine y'p ?_ ?_); (· rfl)) | ((with_reducible refine y'q ?_ ?_); (· rfl)) | fail) <;> (conv => whnf))
  refine loopx_iter 1 ?_
  conv => whnf
  repeat' ((first | ((with_reducible refine y'r ?_ ?_); (· decide +kernel)) | ((with_reducible refine y'g ?_ ?_); (· exact ⟨_, rfl⟩)) | (with_reducible first | refine y'b ‹_› ?_ | refine y'n ‹_› ?_ | refine y'1 ‹_› ?_ | refine y'2 ‹_› ?_ | refine y'3 ?_ | refine y'4 ?_) | ((with_reducible refine y'n ?_ ?_); (· first | with_reducible assumption | exact decide_eq_true (by omega) | decide +kernel)) | (with_reducible first | refine y'n (y'7 ‹_› ‹_›) ?_ | refine y'v (y'8 ‹_› ‹_›) (fun s hs => ?_) | refine y'5 ‹_› ?_ | refine y'6 ‹_› ?_) | ((with_reducible apply y'o); (· exact g0)) | ((with_reducible refine y'p ?_ ?_); (· rfl)) | ((with_reducible refine y'q ?_ ?_); (· rfl)) | fail) <;> (conv => whnf))
  exact keepOf (v₀ := .a .nils) [] [] rfl trivial rfl hK
set_option maxHeartbeats 400000 in
theorem toldRuN {K : V → Hp → Prop} (hK : K (.a (.str (bs [4]))) []) : Go.Eng.Fn Tryd.prog ro 56 [.g [.int .u8 4, .bool false, .nils, .nils, .nils]] [] K := by
  have g0 := True.intro
  refine Fn.weak ?_
  refine Fn.of 0 h56 rfl Tryd.func56 rfl (Nat.le_of_ble_eq_true rfl) ?_
  conv => whnf
  repeat' ((first | ((with_reducible refine y'r ?_ ?_); (· decide +kernel)) | ((with_reducible refine y'g ?_ ?_); (· exact ⟨_, rfl⟩)) | (with_reducible first | refine y'b ‹_› ?_ | refine y'n ‹_› ?_ | refine y'1 ‹_› ?_ | refine y'2 ‹_› ?_ | refine y'3 ?_ | refine y'4 ?_) | ((with_reducible refine y'n ?_ ?_); (· first | with_reducible assumption | exact decide_eq_true (by omega) | decide +kernel)) | (with_reducible first | refine y'n (y'7 ‹_› ‹_›) ?_ | refine y'v (y'8 ‹_› ‹_›) (fun s hs => ?_) | refine y'5 ‹_› ?_ | refine y'6 ‹_› ?_) | ((with_reducible apply y'o); (· exact g0)) | ((with_reducible refine y'p ?_ ?_); (· rfl)) | ((with_reducible refine y'q ?_ ?_); (· rfl)) | fail) <;> (conv => whnf))
  refine loopx_iter 1 ?_
  conv => whnf
  repeat' ((first | ((with_reducible refine y'r ?_ ?_); (· decide +kernel)) | ((with_reducible refine y'g ?_ ?_); (· exact ⟨_, rfl⟩)) | (with_reducible first | refine y'b ‹_› ?_ | refine y'n ‹_› ?_ | refine y'1 ‹_› ?_ | refine y'2 ‹_› ?_ | refine y'3 ?_ | refine y'4 ?_) | ((with_reducible refine y'n ?_ ?_); (· first | with_reducible assumption | exact decide_eq_true (by omega) | decide +kernel)) | (with_reducible first | refine y'n (y'7 ‹_› ‹_›) ?_ | refine y'v (y'8 ‹_› ‹_›) (fun s hs => ?_) | refine y'5 ‹_› ?_ | refine y'6 ‹_› ?_) | ((with_reducible apply y'o); (· exact g0)) | ((with_reducible refine y'p ?_ ?_); (· rfl)) | ((with_reducible refine y'q ?_ ?_); (· rfl)) | fail) <;> (conv => whnf))
  refine loopx_iter 1 ?_
  conv => whnf
  repeat' ((first | ((with_reducible refine y'r ?_ ?_); (· decide +kernel)) | ((with_reducible refine y'g ?_ ?_); (· exact ⟨_, rfl⟩)) | (with_reducible first | refine y'b ‹_› ?_ | refine y'n ‹_› ?_ | refine y'1 ‹_› ?_ | refine y'2 ‹_› ?_ | refine y'3 ?_ | refine y'4 ?_) | ((with_reducible refine y'n ?_ ?_); (· first | with_reducible assumption | exact decide_eq_true (by omega) | decide +kernel)) | (with_reducible first | refine y'n (y'7 ‹_› ‹_›) ?_ | refine y'v (y'8 ‹_› ‹_›) (fun s hs => ?_) | refine y'5 ‹_› ?_ | refine y'6 ‹_› ?_) | ((with_reducible apply y'o); (· exact g0)) | ((with_reducible refine y'p ?_ ?_); (· rfl)) | ((with_reducible refine y'q ?_ ?_); (· rfl)) | fail) <;> (conv => whnf))
  refine loopx_iter 1 ?_
  conv => whnf
  repeat' ((first | ((with_reducible refine y'r ?_ ?_); (· decide +kernel)) | ((with_reducible refine y'g ?_ ?_); (· exact ⟨_, rfl⟩)) | (with_reducible first | refine y'b ‹_› ?_ | refine y'n ‹_› ?_ | refine y'1 ‹_› ?_ | refine y'2 ‹_› ?_ | refine y'3 ?_ | refine y'4 ?_) | ((with_reducible refine y'n ?_ ?_); (· first | with_reducible assumption | exact decide_eq_true (by omega) | decide +kernel)) | (with_reducible first | refine y'n (y'7 ‹_› ‹_›) ?_ | refine y'v (y'8 ‹_› ‹_›) (fun s hs => ?_) | refine y'5 ‹_› ?_ | refine y'6 ‹_› ?_) | ((with_reducible apply y'o); (· exact g0)) | ((with_reducible refine y'p ?_ ?_); (· rfl)) | ((with_reducible refine y'q ?_ ?_); (· rfl)) | fail) <;> (conv => whnf))
  exact keepOf (v₀ := .a (.str (bs [4]))) [] [] rfl trivial rfl hK
set_option maxHeartbeats 400000 in
theorem refRunesN {K : V → Hp → Prop} (hK : K (.t [.a (.str (bs [4])), .a (.int .i64 0)]) []) : Go.Eng.Fn Tryd.prog ro 38 [.a .nils] [] K := by
  have g0 := True.intro
  refine Fn.weak ?_
  refine Fn.of 0 (gOf []) rfl Tryd.func38 rfl (Nat.le_of_ble_eq_true rfl) ?_
  conv => whnf
  repeat' ((first | ((with_reducible refine y'r ?_ ?_); (· decide +kernel)) | ((with_reducible refine y'g ?_ ?_); (· exact ⟨_, rfl⟩)) | (with_reducible first | refine y'b ‹_› ?_ | refine y'n ‹_› ?_ | refine y'1 ‹_› ?_ | refine y'2 ‹_› ?_ | refine y'3 ?_ | refine y'4 ?_) | ((with_reducible refine y'n ?_ ?_); (· first | with_reducible assumption | exact decide_eq_true (by omega) | decide +kernel)) | (with_reducible first | refine y'n (y'7 ‹_› ‹_›) ?_ | refine y'v (y'8 ‹_› ‹_›) (fun s hs => ?_) | refine y'5 ‹_› ?_ | refine y'6 ‹_› ?_) | ((with_reducible apply y'o); (· exact g0)) | ((with_reducible refine y'p ?_ ?_); (· rfl)) | ((with_reducible refine y'q ?_ ?_); (· rfl)) | fail) <;> (conv => whnf))
  refine loopx_iter 1 ?_
  conv => whnf
  repeat' ((first | ((with_reducible refine y'r ?_ ?_); (· decide +kernel)) | ((with_reducible refine y'g ?_ ?_); (· exact ⟨_, rfl⟩)) | (with_reducible first | refine y'b ‹_› ?_ | refine y'n ‹_› ?_ | refine y'1 ‹_› ?_ | refine y'2 ‹_› ?_ | refine y'3 ?_ | refine y'4 ?_) | ((with_reducible refine y'n ?_ ?_); (· first | with_reducible assumption | exact decide_eq_true (by omega) | decide +kernel)) | (with_reducible first | refine y'n (y'7 ‹_› ‹_›) ?_ | refine y'v (y'8 ‹_› ‹_›) (fun s hs => ?_) | refine y'5 ‹_› ?_ | refine y'6 ‹_› ?_) | ((with_reducible apply y'o); (· exact g0)) | ((with_reducible refine y'p ?_ ?_); (· rfl)) | ((with_reducible refine y'q ?_ ?_); (· rfl)) | fail) <;> (conv => whnf))
  refine Fn.frame [] (by rfl) (by exact trivial) (by rfl) (risingN ?_)
  conv => whnf
  repeat' ((first | ((with_reducible refine y'r ?_ ?_); (· decide +kernel)) | ((with_reducible refine y'g ?_ ?_); (· exact ⟨_, rfl⟩)) | (with_reducible first | refine y'b ‹_› ?_ | refine y'n ‹_› ?_ | refine y'1 ‹_› ?_ | refine y'2 ‹_› ?_ | refine y'3 ?_ | refine y'4 ?_) | ((with_reducible refine y'n ?_ ?_); (· first | with_reducible assumption | exact decide_eq_true (by omega) | decide +kernel)) | (with_reducible first | refine y'n (y'7 ‹_› ‹_›) ?_ | refine y'v (y'8 ‹_› ‹_›) (fun s hs => ?_) | refine y'5 ‹_› ?_ | refine y'6 ‹_› ?_) | ((with_reducible apply y'o); (· exact g0)) | ((with_reducible refine y'p ?_ ?_); (· rfl)) | ((with_reducible refine y'q ?_ ?_); (· rfl)) | fail) <;> (conv => whnf))
  refine Fn.frame [] (by rfl) (by exact trivial) (by rfl) (toldRuN ?_)
  have c9 : decide (((bs [4]).size : Int) > 40) = false := decide_eq_false (by rw [bs_size]; decide)
  generalize bs [4] = u at *
  conv => whnf
  repeat' ((first | ((with_reducible refine y'r ?_ ?_); (· decide +kernel)) | ((with_reducible refine y'g ?_ ?_); (· exact ⟨_, rfl⟩)) | (with_reducible first | refine y'b ‹_› ?_ | refine y'n ‹_› ?_ | refine y'1 ‹_› ?_ | refine y'2 ‹_› ?_ | refine y'3 ?_ | refine y'4 ?_) | ((with_reducible refine y'n ?_ ?_); (· first | with_reducible assumption | exact decide_eq_true (by omega) | decide +kernel)) | (with_reducible first | refine y'n (y'7 ‹_› ‹_›) ?_ | refine y'v (y'8 ‹_› ‹_›) (fun s hs => ?_) | refine y'5 ‹_› ?_ | refine y'6 ‹_› ?_) | ((with_reducible apply y'o); (· exact g0)) | ((with_reducible refine y'p ?_ ?_); (· rfl)) | ((with_reducible refine y'q ?_ ?_); (· rfl)) | fail) <;> (conv => whnf))
  exact keepOf (v₀ := .t [.a (.str u), .a (.int .i64 0)]) [] [] rfl trivial rfl hK
end
end Go.Proofs.YtimddbgnaeeggaaDoor.KD
namespace Go.Proofs.YtimddbgnaeeggaaDoor.KD
open Go.Eng
set_option maxRecDepth 100000
section
variable {ro : Addr → A → Prop}
set_option maxHeartbeats 400000 in
theorem sameN {K : V → Hp → Prop} (hK : K (.a (.bool true)) []) : Go.Eng.Fn Tryd.prog ro 36 [.a .nils, .a .nils] [] K := by
  have g0 := True.intro
  have g1 := True.intro
  have g2 := True.intro
  refine Fn.weak ?_
  refine Fn.of_code h36 Tryd.func36 rfl (Nat.le_of_ble_eq_true rfl) ?_
  conv => whnf
  repeat' ((first | ((with_reducible refine y'r ?_ ?_); (· decide +kernel)) | ((with_reducible refine y'g ?_ ?_); (· exact ⟨_, rfl⟩)) | (with_reducible first | refine y'b ‹_› ?_ | refine y'n ‹_› ?_ | refine y'1 ‹_› ?_ | refine y'2 ‹_› ?_ | refine y'3 ?_ | refine y'4 ?_) | ((with_reducible refine y'n ?_ ?_); (· first | with_reducible assumption | exact decide_eq_true (by omega) | decide +kernel)) | (with_reducible first | refine y'n (y'7 ‹_› ‹_›) ?_ | refine y'v (y'8 ‹_› ‹_›) (fun s hs => ?_) | refine y'5 ‹_› ?_ | refine y'6 ‹_› ?_) | ((with_reducible apply y'o); (· first | exact g0 | exact g2)) | (refine ⟨_, g1, ?_⟩) | ((with_reducible refine y'p ?_ ?_); (· rfl)) | ((with_reducible refine y'q ?_ ?_); (· rfl)) | fail) <;> (conv => whnf))
  refine loopx_iter 1 ?_
  conv => whnf
  repeat' ((first | ((with_reducible refine y'r ?_ ?_); (· decide +kernel)) | ((with_reducible refine y'g ?_ ?_); (· exact ⟨_, rfl⟩)) | (with_reducible first | refine y'b ‹_› ?_ | refine y'n ‹_› ?_ | refine y'1 ‹_› ?_ | refine y'2 ‹_› ?_ | refine y'3 ?_ | refine y'4 ?_) | ((with_reducible refine y'n ?_ ?_); (· first | with_reducible assumption | exact decide_eq_true (by omega) | decide +kernel)) | (with_reducible first | refine y'n (y'7 ‹_› ‹_›) ?_ | refine y'v (y'8 ‹_› ‹_›) (fun s hs => ?_) | refine y'5 ‹_› ?_ | refine y'6 ‹_› ?_) | ((with_reducible apply y'o); (· first | exact g0 | exact g2)) | (refine ⟨_, g1, ?_⟩) | ((with_reducible refine y'p ?_ ?_); (· rfl)) | ((with_reducible refine y'q ?_ ?_); (· rfl)) | fail) <;> (conv => whnf))
  exact keepOf (v₀ := .a (.bool true)) [] [] rfl trivial rfl hK
set_option maxHeartbeats 400000 in
/-- sameRunes of an empty row and none. -/
theorem sameSN (rs : List A) (hp : Pl rs) (n cap : Nat) (hn : n = 0) (mk : Bool) {K : V → Hp → Prop} (hK : K (.a (.bool true)) [.cells rs 21 mk]) : Go.Eng.Fn Tryd.prog ro 36 [.a (.slc 0 0 n cap), .a .nils] [.cells rs 21 mk] K := by
  have g0 := True.intro
  have g1 := True.intro
  have g2 := True.intro
  have c0 : ((n : Int) != (0 : Int)) = false := by rw [hn]; rfl
  have d1 : decide ((0 : Int) < (n : Int)) = false := by rw [hn]; rfl
  refine Fn.weak ?_
  refine Fn.of 1 h36 rfl Tryd.func36 rfl (Nat.le_of_ble_eq_true rfl) ?_
  conv => whnf
  repeat' ((first | ((with_reducible refine y'r ?_ ?_); (· decide +kernel)) | ((with_reducible refine y'g ?_ ?_); (· exact ⟨_, rfl⟩)) | (with_reducible first | refine y'b ‹_› ?_ | refine y'n ‹_› ?_ | refine y'1 ‹_› ?_ | refine y'2 ‹_› ?_ | refine y'3 ?_ | refine y'4 ?_) | ((with_reducible refine y'n ?_ ?_); (· first | with_reducible assumption | exact decide_eq_true (by omega) | decide +kernel)) | (with_reducible first | refine y'n (y'7 ‹_› ‹_›) ?_ | refine y'v (y'8 ‹_› ‹_›) (fun s hs => ?_) | refine y'5 ‹_› ?_ | refine y'6 ‹_› ?_) | ((with_reducible apply y'o); (· first | exact g0 | exact g2)) | (refine ⟨_, g1, ?_⟩) | ((with_reducible refine y'p ?_ ?_); (· rfl)) | ((with_reducible refine y'q ?_ ?_); (· rfl)) | fail) <;> (conv => whnf))
  refine loopx_iter 1 ?_
  conv => whnf
  repeat' ((first | ((with_reducible refine y'r ?_ ?_); (· decide +kernel)) | ((with_reducible refine y'g ?_ ?_); (· exact ⟨_, rfl⟩)) | (with_reducible first | refine y'b ‹_› ?_ | refine y'n ‹_› ?_ | refine y'1 ‹_› ?_ | refine y'2 ‹_› ?_ | refine y'3 ?_ | refine y'4 ?_) | ((with_reducible refine y'n ?_ ?_); (· first | with_reducible assumption | exact decide_eq_true (by omega) | decide +kernel)) | (with_reducible first | refine y'n (y'7 ‹_› ‹_›) ?_ | refine y'v (y'8 ‹_› ‹_›) (fun s hs => ?_) | refine y'5 ‹_› ?_ | refine y'6 ‹_› ?_) | ((with_reducible apply y'o); (· first | exact g0 | exact g2)) | (refine ⟨_, g1, ?_⟩) | ((with_reducible refine y'p ?_ ?_); (· rfl)) | ((with_reducible refine y'q ?_ ?_); (· rfl)) | fail) <;> (conv => whnf))
  exact keepOf (v₀ := .a (.bool true)) [.cells rs 21 mk] [0] rfl ⟨ren_pl hp _ _ _, trivial⟩ (by simp [nodupb, baseb, Ob.okb, frmOk, V.okb, A.okb, hp.2] <;> decide) hK
set_option maxHeartbeats 1000000 in
/-- sameRunes of a row with one that came in. -/
theorem sameML (Z : List Int) (p : Addr) (rs : List A) (m cap cap2 : Nat) (mk : Bool) (hz : Rz Z rs) (hro : ∀ (i : Nat) (z : Int), Z[i]? = some z → ro (p.add i) (.int .i32 z)) (hn : m = Z.length) (hn9 : m ≤ 70368744177664) {K : V → Hp → Prop}
    (hK : K (.a (.bool true)) [.cells rs 21 mk]) :
    Go.Eng.Fn Tryd.prog ro 36 [.a (.slc 0 0 m cap), .a (.rslc p m cap2)] [.cells rs 21 mk] K := by
  have hp := hz.pl
  have c0 : ((m : Int) != (m : Int)) = false := by simp
  have g0 := True.intro
  have g1 := True.intro
  have g2 := True.intro
  refine Fn.weak ?_
  refine Fn.of 1 h36 rfl Tryd.func36 rfl (Nat.le_of_ble_eq_true rfl) ?_
  conv => whnf
  repeat' ((first | ((with_reducible refine y'r ?_ ?_); (· decide +kernel)) | ((with_reducible refine y'g ?_ ?_); (· exact ⟨_, rfl⟩)) | (with_reducible first | refine y'b ‹_› ?_ | refine y'n ‹_› ?_ | refine y'1 ‹_› ?_ | refine y'2 ‹_› ?_ | refine y'3 ?_ | refine y'4 ?_) | ((with_reducible refine y'n ?_ ?_); (· first | with_reducible assumption | exact decide_eq_true (by omega) | decide +kernel)) | (with_reducible first | refine y'n (y'7 ‹_› ‹_›) ?_ | refine y'v (y'8 ‹_› ‹_›) (fun s hs => ?_) | refine y'5 ‹_› ?_ | refine y'6 ‹_› ?_) | ((with_reducible apply y'o); (· first | exact g0 | exact g2)) | (refine ⟨_, g1, ?_⟩) | ((with_reducible refine y'p ?_ ?_); (· rfl)) | ((with_reducible refine y'q ?_ ?_); (· rfl)) | fail) <;> (conv => whnf))
  clear g0 g1
  refine loopx_of (fun k F H => ∃ i : Nat, i ≤ m ∧ k = m - i ∧ F = [(0, .a (.slc 0 0 m cap)), (1, .a (.rslc p m cap2)), (5, .a (.int .i64 i))] ∧ H = [.cells rs 21 mk]) m ?_ ?_
  · exact Into.weak [0] [(0, .a (.slc 0 0 m cap)), (1, .a (.rslc p m cap2)), (5, .a (.int .i64 (0 : Nat)))] [.cells rs 21 mk] ⟨0, Nat.zero_le _, rfl, rfl, rfl⟩ ⟨rfl, rfl, rfl, trivial⟩ ⟨ren_pl hp _ _ _, trivial⟩ (by simp [nodupb, baseb, Ob.okb, frmOk, V.okb, A.okb, hp.2] <;> decide)
  · rintro k F H ⟨i, hi, rfl, rfl, rfl⟩
    have hw : IntKind.i64.wrap (↑i + 1) = ((i + 1 : Nat) : Int) := by rw [i64w (by omega) (by omega)]; rfl
    by_cases hin : i < m
    · have d1 : decide ((i : Int) < (m : Int)) = true := decide_eq_true (by omega)
      have d2 : decide (0 ≤ (i : Int) ∧ (i : Int) < (m : Int)) = true := decide_eq_true (by omega)
      obtain ⟨e, he⟩ : ∃ e, Z[i]? = some e := ⟨_, List.getElem?_eq_getElem (by omega)⟩
      have g0 : rs[0 + (i : Int).toNat * Tryd.prog.types[21].size]? = some (.int .i32 e) := by
        rw [Int.toNat_natCast, s21, Nat.zero_add, Nat.mul_one]
        exact hz.get i e he
      have g1 : ro (p.add ((i : Int).toNat * Tryd.prog.types[21].size)) (.int .i32 e) := by
        rw [Int.toNat_natCast, s21, Nat.mul_one]
        exact hro i e he
      have c1 : (e != e) = false := by simp
      conv => whnf
      repeat' ((first | ((with_reducible refine y'r ?_ ?_); (· decide +kernel)) | ((with_reducible refine y'g ?_ ?_); (· exact ⟨_, rfl⟩)) | (with_reducible first | refine y'b ‹_› ?_ | refine y'n ‹_› ?_ | refine y'1 ‹_› ?_ | refine y'2 ‹_› ?_ | refine y'3 ?_ | refine y'4 ?_) | ((with_reducible refine y'n ?_ ?_); (· first | with_reducible assumption | exact decide_eq_true (by omega) | decide +kernel)) | (with_reducible first | refine y'n (y'7 ‹_› ‹_›) ?_ | refine y'v (y'8 ‹_› ‹_›) (fun s hs => ?_) | refine y'5 ‹_› ?_ | refine y'6 ‹_› ?_) | ((with_reducible apply y'o); (· first | exact g0 | exact g2)) | (refine ⟨_, g1, ?_⟩) | ((with_reducible refine y'p ?_ ?_); (· rfl)) | ((with_reducible refine y'q ?_ ?_); (· rfl)) | fail) <;> (conv => whnf))
      exact ⟨m - (i + 1), by omega, Into.weak [0] [(0, .a (.slc 0 0 m cap)), (1, .a (.rslc p m cap2)), (5, .a (.int .i64 ((i + 1 : Nat) : Int)))] [.cells rs 21 mk] ⟨i + 1, by omega, rfl, rfl, rfl⟩ ⟨rfl, rfl, congrArg (fun z => some (V.a (.int .i64 z))) hw, trivial⟩ ⟨ren_pl hp _ _ _, trivial⟩ (by simp [nodupb, baseb, Ob.okb, frmOk, V.okb, A.okb, hp.2] <;> decide)⟩
    · have d1 : decide ((i : Int) < (m : Int)) = false := decide_eq_false (by omega)
      have g0 := True.intro
      have g1 := True.intro
      conv => whnf
      repeat' ((first | ((with_reducible refine y'r ?_ ?_); (· decide +kernel)) | ((with_reducible refine y'g ?_ ?_); (· exact ⟨_, rfl⟩)) | (with_reducible first | refine y'b ‹_› ?_ | refine y'n ‹_› ?_ | refine y'1 ‹_› ?_ | refine y'2 ‹_› ?_ | refine y'3 ?_ | refine y'4 ?_) | ((with_reducible refine y'n ?_ ?_); (· first | with_reducible assumption | exact decide_eq_true (by omega) | decide +kernel)) | (with_reducible first | refine y'n (y'7 ‹_› ‹_›) ?_ | refine y'v (y'8 ‹_› ‹_›) (fun s hs => ?_) | refine y'5 ‹_› ?_ | refine y'6 ‹_› ?_) | ((with_reducible apply y'o); (· first | exact g0 | exact g2)) | (refine ⟨_, g1, ?_⟩) | ((with_reducible refine y'p ?_ ?_); (· rfl)) | ((with_reducible refine y'q ?_ ?_); (· rfl)) | fail) <;> (conv => whnf))
      exact keepOf (v₀ := .a (.bool true)) [.cells rs 21 mk] [0] rfl ⟨ren_pl hp _ _ _, trivial⟩ (by simp [nodupb, baseb, Ob.okb, frmOk, V.okb, A.okb, hp.2] <;> decide) hK
end
theorem z32_store {Z Y : List Int} {W : List Int} {n : Nat} (hn : n = Z.length) (h : W.length ≤ Y.length) : storeL (z32 (Z ++ Y)) n (z32 W) = z32 (Z ++ W ++ Y.drop W.length) := by
  subst hn
  rw [storeL_row _ _ _ (by rw [z32_len, z32_len, List.length_append]; omega), z32_len, z32_append Z Y, List.take_left' (z32_len Z), List.drop_append, z32_len, List.drop_of_length_le (by rw [z32_len]; omega), List.nil_append, z32_append, z32_append]
  congr 1
  unfold z32
  rw [← List.map_drop, Nat.add_sub_cancel_left]
theorem z32_zeros (n : Nat) : repl [.int .i32 0] n = z32 (List.replicate n 0) := by
  unfold z32
  show List.replicate n _ = _
  rw [List.map_replicate]
theorem z32_take {Z Y : List Int} {n : Nat} (hn : n = Z.length) : List.drop 0 (List.take (0 + n) (z32 (Z ++ Y))) = z32 Z := by
  rw [Nat.zero_add, List.drop_zero, z32_append, List.take_left' (by rw [z32_len, hn])]
theorem i32s_nat0 (n : Nat) : z32 (List.replicate n 0) = i32s (List.replicate n 0) := by
  rw [← z32_i32, List.map_replicate]
  rfl
end Go.Proofs.YtimddbgnaeeggaaDoor.KD
namespace Go.Proofs.YtimddbgnaeeggaaDoor.KD
open Go.Eng
set_option maxRecDepth 100000
/-- The runes as the law turns them, up to a place. -/
def gm (Z : List Int) (i : Nat) : List Int := (Z.take i).map (fun z : Int => IntKind.i32.wrap (z.tmod 90 + 65)) ++ Z.drop i
theorem gm_len (Z : List Int) (i : Nat) : (gm Z i).length = Z.length := by
  unfold gm
  rw [List.length_append, List.length_map, ← List.length_append, List.take_append_drop]
theorem gm_get {Z : List Int} {i : Nat} {z : Int} (h : Z[i]? = some z) : (gm Z i)[i]? = some z := by
  obtain ⟨hi, _⟩ := List.getElem?_eq_some_iff.1 h
  have hl : ((Z.take i).map (fun z : Int => IntKind.i32.wrap (z.tmod 90 + 65))).length = i := by rw [List.length_map, List.length_take]; omega
  unfold gm
  rw [List.getElem?_append_right (by omega), hl, Nat.sub_self, List.getElem?_drop]
  exact h
theorem gm_all (Z : List Int) : gm Z Z.length = Z.map (fun z : Int => IntKind.i32.wrap (z.tmod 90 + 65)) := by
  unfold gm
  rw [List.take_length, List.drop_length, List.append_nil]
theorem set_mid {α : Type} (a b : List α) (x y : α) {n : Nat} (hn : n = a.length) : (a ++ x :: b).set n y = a ++ y :: b := by
  subst hn
  induction a with
  | nil => rfl
  | cons c a ih => simp only [List.cons_append, List.length_cons, List.set_cons_succ, ih]
theorem z32_gm {Z : List Int} {i : Nat} {z : Int} {R : List Int} (h : Z[i]? = some z) : storeL (z32 (gm Z i ++ R)) i [.int .i32 (IntKind.i32.wrap (z.tmod 90 + 65))] = z32 (gm Z (i + 1) ++ R) := by
  obtain ⟨hi, hz⟩ := List.getElem?_eq_some_iff.1 h
  have hl : ((Z.take i).map (fun z : Int => IntKind.i32.wrap (z.tmod 90 + 65))).length = i := by rw [List.length_map, List.length_take]; omega
  have e : storeL (z32 (gm Z i ++ R)) i [.int .i32 (IntKind.i32.wrap (z.tmod 90 + 65))] = z32 ((gm Z i ++ R).set i (IntKind.i32.wrap (z.tmod 90 + 65))) := by
    unfold z32
    rw [List.map_set]
    rfl
  rw [e]
  congr 1
  unfold gm
  rw [List.drop_eq_getElem_cons hi, hz, List.append_assoc, List.cons_append, set_mid _ _ _ _ hl.symm, List.take_add_one, h]
  simp
theorem pl_store {l xs : List A} {o : Nat} (hl : Pl l) (hx : Pl xs) (h : o + xs.length ≤ l.length) : Pl (storeL l o xs) ∧ (storeL l o xs).length = l.length := by
  rw [storeL_row _ _ _ h]
  refine ⟨⟨fun δ => ?_, fun n => ?_⟩, by simp only [List.length_append, List.length_take, List.length_drop]; omega⟩
  · rw [List.map_append, List.map_append, List.map_take, List.map_drop, hl.1, hx.1]
  · rw [List.all_append, List.all_append, hx.2]
    have h1 := List.all_eq_true.1 (hl.2 n)
    rw [List.all_eq_true.2 fun x hx => h1 x (List.mem_of_mem_take hx), List.all_eq_true.2 fun x hx => h1 x (List.mem_of_mem_drop hx)]
    rfl
theorem pl_grow {l x : List A} {o m : Nat} {z : A} (hl : Pl l) (hx : Pl x) (hz : Pl [z]) (h : o ≤ l.length) : Pl (List.drop 0 (List.take o l) ++ x ++ repl [z] m) ∧ (List.drop 0 (List.take o l) ++ x ++ repl [z] m).length = o + x.length + m := by
  have hr : Pl (repl [z] m) := by
    refine ⟨fun δ => ?_, fun n => ?_⟩
    · show (List.replicate m z).map _ = List.replicate m z
      have := hz.1 δ
      simp only [List.map_cons, List.map_nil, List.cons.injEq, and_true] at this
      rw [List.map_replicate, this]
    · show (List.replicate m z).all _ = true
      have := hz.2 n
      simp only [List.all_cons, List.all_nil, Bool.and_true] at this
      exact List.all_eq_true.2 fun y hy => by rw [(List.mem_replicate.1 hy).2]; exact this
  rw [List.drop_zero]
  refine ⟨⟨fun δ => ?_, fun n => ?_⟩, ?_⟩
  · rw [List.map_append, List.map_append, List.map_take, hl.1, hx.1, hr.1]
  · rw [List.all_append, List.all_append, hx.2, hr.2]
    have h1 := List.all_eq_true.1 (hl.2 n)
    rw [List.all_eq_true.2 fun y hy => h1 y (List.mem_of_mem_take hy)]
    rfl
  · simp only [List.length_append, List.length_take]
    show min o l.length + x.length + (List.replicate m z).length = _
    rw [List.length_replicate]; omega
section
variable {ro : Addr → A → Prop}
set_option maxHeartbeats 8000000 in
theorem runes8 (hT : Tabs ro) (Z : List Int) (l : A) (n : Nat) (hn : n = Z.length) (hb : n * 4 ≤ 140737488351232) (hl : l = .nils ∧ n = 0 ∨ ∃ p cap, l = .rslc p n cap ∧ (∀ (i : Nat) (z : Int), Z[i]? = some z → ro (p.add i) (.int .i32 z))) :
    Go.Eng.Fn Tryd.prog ro 8 [.a l] [] (fun v _ => v = .a (.bool true)) := by
  have hn9 : n ≤ 70368744177664 := by omega
  have kr : ∀ {K : V → Hp → Prop}, K (.t [.a (.str (bs (rnO Z).1)), .a (.int .i64 (rnO Z).2)]) [] → Go.Eng.Fn Tryd.prog ro 38 [.a l] [] K := by
    intro K hK
    rcases hl with ⟨rfl, h0⟩ | ⟨p, cap, rfl, hro⟩
    · have hZ : Z = [] := List.eq_nil_of_length_eq_zero (by omega)
      subst hZ
      refine refRunesN ?_
      have e : rnO [] = ([4], 0) := by rw [show ([] : List Int) = ([] : List Nat).map Int.ofNat from rfl, rnO_nat (by intro r hr; cases hr), show insL [] = [] from rfl, flat_nil]; rfl
      rw [e] at hK
      exact hK
    · exact refRunesR Z p n cap hro hn hn9 hK
  have ks : ∀ (rs : List A) (cap : Nat) (mk : Bool), Rz Z rs → ∀ {K : V → Hp → Prop}, K (.a (.bool true)) [.cells rs 21 mk] → Go.Eng.Fn Tryd.prog ro 36 [.a (.slc 0 0 n cap), .a l] [.cells rs 21 mk] K := by
    intro rs cap mk hz K hK
    rcases hl with ⟨rfl, h0⟩ | ⟨p, cap2, rfl, hro⟩
    · exact sameSN rs hz.pl n cap h0 mk hK
    · exact sameML Z p rs n cap cap2 mk hz hro hn hn9 hK
  obtain ⟨q, hq⟩ : ∃ q, q = n + 4 := ⟨_, rfl⟩
  have hw4 : IntKind.i64.wrap ((n : Int) + 4) = (q : Int) := by rw [i64w (by omega) (by omega)]; omega
  have hw1 : IntKind.i64.wrap ((n : Int) + 1) = ((n + 1 : Nat) : Int) := by rw [i64w (by omega) (by omega)]; rfl
  have g0 := True.intro
  have g1 := True.intro
  have hmk : mkOK 0 (q : Int) Tryd.prog.types[21].bytes = true := mkOK_of (by rw [b21]; omega)
  refine Fn.of 0 (cutAt [3, 13] (gOf [])) rfl Tryd.func8 rfl (Nat.le_of_ble_eq_true rfl) ?_
  rcases id hl with ⟨rfl, h0⟩ | ⟨p, cap, rfl, hro⟩
  case' inl =>
    conv => whnf
    repeat' ((first | rw [hw4] | ((with_reducible refine y'r ?_ ?_); (· decide +kernel)) | ((with_reducible refine y'g ?_ ?_); (· exact ⟨_, rfl⟩)) | (with_reducible first | refine y'b ‹_› ?_ | refine y'n ‹_› ?_ | refine y'1 ‹_› ?_ | refine y'2 ‹_› ?_ | refine y'3 ?_ | refine y'4 ?_) | ((with_reducible refine y'n ?_ ?_); (· first | with_reducible assumption | exact decide_eq_true (by omega) | decide +kernel)) | (with_reducible first | refine y'n (y'7 ‹_› ‹_›) ?_ | refine y'v (y'8 ‹_› ‹_›) (fun s hs => ?_) | refine y'5 ‹_› ?_ | refine y'6 ‹_› ?_) | ((with_reducible apply y'o); (· first | exact g0 | exact g1)) | ((with_reducible refine y'p ?_ ?_); (· rfl)) | ((with_reducible refine y'q ?_ ?_); (· rfl)) | fail) <;> (conv => whnf))
    refine cutx_of (fun F H => ∃ ms, ms = z32 (Z ++ List.replicate 4 0) ∧ F = [(0, .a .nils), (3, .a (.slc 0 0 n q))] ∧ H = [.cells ms 21 false]) (Into.weak [0] [(0, .a .nils), (3, .a (.slc 0 0 0 4))] [.cells [.int .i32 0, .int .i32 0, .int .i32 0, .int .i32 0] 21 false] ⟨_, by rw [show Z = [] from List.eq_nil_of_length_eq_zero (by omega)]; unfold z32; rfl, by rw [show q = 4 by omega, h0], rfl⟩ ⟨rfl, rfl, trivial⟩ ⟨rfl, trivial⟩ rfl) ?_
  case' inr =>
    conv => whnf
    repeat' ((first | rw [hw4] | ((with_reducible refine y'r ?_ ?_); (· decide +kernel)) | ((with_reducible refine y'g ?_ ?_); (· exact ⟨_, rfl⟩)) | (with_reducible first | refine y'b ‹_› ?_ | refine y'n ‹_› ?_ | refine y'1 ‹_› ?_ | refine y'2 ‹_› ?_ | refine y'3 ?_ | refine y'4 ?_) | ((with_reducible refine y'n ?_ ?_); (· first | with_reducible assumption | exact decide_eq_true (by omega) | decide +kernel)) | (with_reducible first | refine y'n (y'7 ‹_› ‹_›) ?_ | refine y'v (y'8 ‹_› ‹_›) (fun s hs => ?_) | refine y'5 ‹_› ?_ | refine y'6 ‹_› ?_) | ((with_reducible apply y'o); (· first | exact g0 | exact g1)) | ((with_reducible refine y'p ?_ ?_); (· rfl)) | ((with_reducible refine y'q ?_ ?_); (· rfl)) | fail) <;> (conv => whnf))
    refine y'f (l' := z32 (List.replicate q 0)) (by rw [Int.toNat_natCast, s21, Nat.mul_one]; exact z32_zeros q) (fun ms hms => ?_)
    have hmp : Pl ms := hms ▸ z32_pl _
    conv => whnf
    repeat' ((first | ((with_reducible refine y'r ?_ ?_); (· decide +kernel)) | ((with_reducible refine y'g ?_ ?_); (· exact ⟨_, rfl⟩)) | (with_reducible first | refine y'b ‹_› ?_ | refine y'n ‹_› ?_ | refine y'1 ‹_› ?_ | refine y'2 ‹_› ?_ | refine y'3 ?_ | refine y'4 ?_) | ((with_reducible refine y'n ?_ ?_); (· first | with_reducible assumption | exact decide_eq_true (by omega) | decide +kernel)) | (with_reducible first | refine y'n (y'7 ‹_› ‹_›) ?_ | refine y'v (y'8 ‹_› ‹_›) (fun s hs => ?_) | refine y'5 ‹_› ?_ | refine y'6 ‹_› ?_) | ((with_reducible apply y'o); (· first | exact g0 | exact g1)) | ((with_reducible refine y'p ?_ ?_); (· rfl)) | ((with_reducible refine y'q ?_ ?_); (· rfl)) | fail) <;> (conv => whnf))
    obtain ⟨zr, hzr⟩ : ∃ zr, zr = z32 Z := ⟨_, rfl⟩
    have hzl : zr.length = n := by rw [hzr, z32_len, hn]
    refine ⟨zr, by rw [hzl, s21, Nat.mul_one], fun j y hy => ?_, ?_⟩
    · obtain ⟨hj, _⟩ := List.getElem?_eq_some_iff.1 hy
      obtain ⟨z, hz⟩ : ∃ z, Z[j]? = some z := ⟨_, List.getElem?_eq_getElem (by omega)⟩
      rw [hzr, z32_get hz] at hy
      injection hy with hy
      rw [← hy]
      exact hro j z hz
    conv => whnf
    repeat' ((first | ((with_reducible refine y'r ?_ ?_); (· decide +kernel)) | ((with_reducible refine y'g ?_ ?_); (· exact ⟨_, rfl⟩)) | (with_reducible first | refine y'b ‹_› ?_ | refine y'n ‹_› ?_ | refine y'1 ‹_› ?_ | refine y'2 ‹_› ?_ | refine y'3 ?_ | refine y'4 ?_) | ((with_reducible refine y'n ?_ ?_); (· first | with_reducible assumption | exact decide_eq_true (by omega) | decide +kernel)) | (with_reducible first | refine y'n (y'7 ‹_› ‹_›) ?_ | refine y'v (y'8 ‹_› ‹_›) (fun s hs => ?_) | refine y'5 ‹_› ?_ | refine y'6 ‹_› ?_) | ((with_reducible apply y'o); (· first | exact g0 | exact g1)) | ((with_reducible refine y'p ?_ ?_); (· rfl)) | ((with_reducible refine y'q ?_ ?_); (· rfl)) | fail) <;> (conv => whnf))
    refine y'p (decide_eq_true (by show 0 + n ≤ q; omega)) ?_
    conv => whnf
    have hml : ms.length = q := by rw [hms, z32_len, List.length_replicate]
    refine y'n (decide_eq_true (by rw [s21, hzl, hml]; show 0 + 0 * 1 + n ≤ q; omega)) ?_
    conv => whnf
    repeat' ((first | ((with_reducible refine y'r ?_ ?_); (· decide +kernel)) | ((with_reducible refine y'g ?_ ?_); (· exact ⟨_, rfl⟩)) | (with_reducible first | refine y'b ‹_› ?_ | refine y'n ‹_› ?_ | refine y'1 ‹_› ?_ | refine y'2 ‹_› ?_ | refine y'3 ?_ | refine y'4 ?_) | ((with_reducible refine y'n ?_ ?_); (· first | with_reducible assumption | exact decide_eq_true (by omega) | decide +kernel)) | (with_reducible first | refine y'n (y'7 ‹_› ‹_›) ?_ | refine y'v (y'8 ‹_› ‹_›) (fun s hs => ?_) | refine y'5 ‹_› ?_ | refine y'6 ‹_› ?_) | ((with_reducible apply y'o); (· first | exact g0 | exact g1)) | ((with_reducible refine y'p ?_ ?_); (· rfl)) | ((with_reducible refine y'q ?_ ?_); (· rfl)) | fail) <;> (conv => whnf))
    refine y'f (l' := z32 (Z ++ List.replicate 4 0)) (by
      rw [hms, hzr]
      show storeL (z32 ([] ++ List.replicate q 0)) 0 (z32 Z) = _
      exact (z32_store (Z := []) (n := 0) rfl (by rw [List.length_replicate]; omega)).trans (by rw [List.nil_append, List.drop_replicate, show q - Z.length = 4 by omega])) (fun m2 hm2 => ?_)
    have hm2p : Pl m2 := hm2 ▸ z32_pl _
    conv => whnf
    repeat' ((first | ((with_reducible refine y'r ?_ ?_); (· decide +kernel)) | ((with_reducible refine y'g ?_ ?_); (· exact ⟨_, rfl⟩)) | (with_reducible first | refine y'b ‹_› ?_ | refine y'n ‹_› ?_ | refine y'1 ‹_› ?_ | refine y'2 ‹_› ?_ | refine y'3 ?_ | refine y'4 ?_) | ((with_reducible refine y'n ?_ ?_); (· first | with_reducible assumption | exact decide_eq_true (by omega) | decide +kernel)) | (with_reducible first | refine y'n (y'7 ‹_› ‹_›) ?_ | refine y'v (y'8 ‹_› ‹_›) (fun s hs => ?_) | refine y'5 ‹_› ?_ | refine y'6 ‹_› ?_) | ((with_reducible apply y'o); (· first | exact g0 | exact g1)) | ((with_reducible refine y'p ?_ ?_); (· rfl)) | ((with_reducible refine y'q ?_ ?_); (· rfl)) | fail) <;> (conv => whnf))
    refine cutx_of (fun F H => ∃ ms, ms = z32 (Z ++ List.replicate 4 0) ∧ F = [(0, .a (.rslc p n cap)), (3, .a (.slc 0 0 n q))] ∧ H = [.cells ms 21 false]) (Into.weak [0] [(0, .a (.rslc p n cap)), (3, .a (.slc 0 0 (0 + n) q))] [.cells m2 21 false] ⟨_, hm2, (by rw [Nat.zero_add]), rfl⟩ ⟨rfl, rfl, trivial⟩ ⟨ren_pl hm2p _ _ _, trivial⟩ (by simp [nodupb, baseb, Ob.okb, frmOk, V.okb, A.okb, hm2p.2] <;> decide)) ?_
    clear hm2p hm2 m2 hml hzl hzr zr hmp hms ms
  all_goals
    rintro F H ⟨ms, hms, rfl, rfl⟩
    have hmp : Pl ms := hms ▸ z32_pl _
    conv => whnf
    repeat' ((first | ((with_reducible refine y'r ?_ ?_); (· decide +kernel)) | ((with_reducible refine y'g ?_ ?_); (· exact ⟨_, rfl⟩)) | (with_reducible first | refine y'b ‹_› ?_ | refine y'n ‹_› ?_ | refine y'1 ‹_› ?_ | refine y'2 ‹_› ?_ | refine y'3 ?_ | refine y'4 ?_) | ((with_reducible refine y'n ?_ ?_); (· first | with_reducible assumption | exact decide_eq_true (by omega) | decide +kernel)) | (with_reducible first | refine y'n (y'7 ‹_› ‹_›) ?_ | refine y'v (y'8 ‹_› ‹_›) (fun s hs => ?_) | refine y'5 ‹_› ?_ | refine y'6 ‹_› ?_) | ((with_reducible apply y'o); (· first | exact g0 | exact g1)) | ((with_reducible refine y'p ?_ ?_); (· rfl)) | ((with_reducible refine y'q ?_ ?_); (· rfl)) | fail) <;> (conv => whnf))
    refine y'p (decide_eq_true (by omega)) ?_
    have hml : ms.length = n + 4 := by rw [hms, z32_len, List.length_append, List.length_replicate, hn]
    conv => whnf
    refine y'n (decide_eq_true (by rw [s21, hml]; show 0 + n * 1 + 2 ≤ n + 4; omega)) ?_
    conv => whnf
    repeat' ((first | ((with_reducible refine y'r ?_ ?_); (· decide +kernel)) | ((with_reducible refine y'g ?_ ?_); (· exact ⟨_, rfl⟩)) | (with_reducible first | refine y'b ‹_› ?_ | refine y'n ‹_› ?_ | refine y'1 ‹_› ?_ | refine y'2 ‹_› ?_ | refine y'3 ?_ | refine y'4 ?_) | ((with_reducible refine y'n ?_ ?_); (· first | with_reducible assumption | exact decide_eq_true (by omega) | decide +kernel)) | (with_reducible first | refine y'n (y'7 ‹_› ‹_›) ?_ | refine y'v (y'8 ‹_› ‹_›) (fun s hs => ?_) | refine y'5 ‹_› ?_ | refine y'6 ‹_› ?_) | ((with_reducible apply y'o); (· first | exact g0 | exact g1)) | ((with_reducible refine y'p ?_ ?_); (· rfl)) | ((with_reducible refine y'q ?_ ?_); (· rfl)) | fail) <;> (conv => whnf))
    refine y'f (l' := z32 (Z ++ [-7, -8, 0, 0])) (by
      rw [hms, s21, Nat.mul_one, Nat.zero_add]
      refine Eq.trans ?_ ((z32_store (Y := List.replicate 4 0) (W := [-7, -8]) hn (by decide)).trans (by rw [List.append_assoc]; rfl))
      unfold z32
      rfl) (fun m2 hm2 => ?_)
    have hm2p : Pl m2 := hm2 ▸ z32_pl _
    have hz2 : Rz Z m2 := by rw [hm2, z32_append]; exact Rz.of (z32_pl _)
    have ko := @ownRunes ro hT Z m2 n q false hz2 hn (by omega)
    have ks2 := @ks m2 q false hz2
    have hg7 : m2[0 + (n : Int).toNat * Tryd.prog.types[21].size]? = some (.int .i32 (-7)) := by
      rw [Int.toNat_natCast, s21, Nat.mul_one, Nat.zero_add, hm2]
      exact z32_get (by rw [List.getElem?_append_right (by omega), hn, Nat.sub_self]; rfl)
    have hg8 : m2[0 + ((n + 1 : Nat) : Int).toNat * Tryd.prog.types[21].size]? = some (.int .i32 (-8)) := by
      rw [Int.toNat_natCast, s21, Nat.mul_one, Nat.zero_add, hm2]
      exact z32_get (by rw [List.getElem?_append_right (by omega), hn, Nat.add_sub_cancel_left]; rfl)
    have hz7 : n = 0 → m2[0]? = some (.int .i32 (-7)) := fun h => by rw [hm2]; exact z32_get (by rw [show Z = [] from List.eq_nil_of_length_eq_zero (by omega)]; rfl)
    have hz8 : n = 0 → m2[1]? = some (.int .i32 (-8)) := fun h => by rw [hm2]; exact z32_get (by rw [show Z = [] from List.eq_nil_of_length_eq_zero (by omega)]; rfl)
    have hw0 : IntKind.i64.wrap (0 + 1) = 1 := by decide
    clear hml hmp
    rcases rnO_cases Z with ⟨L, hL1, hL2, hL3, hr⟩ | ⟨hr1, hr2⟩
    case' inl =>
      rw [hr] at ko kr
      obtain ⟨u, hu⟩ : ∃ u, u = bs (4 :: flat L) := ⟨_, rfl⟩
      replace ko : ∀ {K : V → Hp → Prop}, K (.t [.a (.str u), .a (.int .i64 0)]) [.cells m2 21 false] → Go.Eng.Fn Tryd.prog ro 37 [.a (.slc 0 0 n q)] [.cells m2 21 false] K := fun h => ko (hu ▸ h)
      replace kr : ∀ {K : V → Hp → Prop}, K (.t [.a (.str u), .a (.int .i64 0)]) [] → Go.Eng.Fn Tryd.prog ro 38 [.a _] [] K := fun h => kr (hu ▸ h)
      have f1 : (!(u.data.toList == u.data.toList)) = false := by simp
      have ka := @asRunes1 ro L hL3
      have kp := @apart4 ro (flat L) hL3.2.2
      rw [← hu] at ka kp
      conv => whnf
      repeat' ((first | rw [hw1] | rw [hw0] | ((with_reducible refine y'r ?_ ?_); (· decide +kernel)) | ((with_reducible refine y'g ?_ ?_); (· exact ⟨_, rfl⟩)) | (with_reducible first | refine y'b ‹_› ?_ | refine y'n ‹_› ?_ | refine y'1 ‹_› ?_ | refine y'2 ‹_› ?_ | refine y'3 ?_ | refine y'4 ?_) | ((with_reducible refine y'n ?_ ?_); (· first | with_reducible assumption | exact decide_eq_true (by omega) | decide +kernel)) | (with_reducible first | refine y'n (y'7 ‹_› ‹_›) ?_ | refine y'v (y'8 ‹_› ‹_›) (fun s hs => ?_) | refine y'5 ‹_› ?_ | refine y'6 ‹_› ?_) | ((with_reducible apply y'o); (· first | exact g0 | exact g1)) | ((with_reducible refine y'p ?_ ?_); (· rfl)) | ((with_reducible refine y'q ?_ ?_); (· rfl)) | ((with_reducible apply y'o); (· first | exact hg7 | exact hg8 | exact hz7 h0 | exact hz8 h0)) | (refine Fn.frame [0] (by rfl) (by exact ⟨ren_pl hm2p _ _ _, trivial⟩) (by simp [nodupb, V.okb, A.okb, Ob.okb, hm2p.2] <;> decide) (ko ?_)) | (refine Fn.frame [0] (by rfl) (by exact ⟨ren_pl hm2p _ _ _, trivial⟩) (by simp [nodupb, V.okb, A.okb, Ob.okb, hm2p.2] <;> decide) (ks2 ?_)) | (refine Fn.frame [] (by rfl) (by exact trivial) (by rfl) (kr ?_)) | fail) <;> (conv => whnf))
      refine Fn.frame [] (by rfl) (by exact trivial) (by rfl) (ka (fun rs1 X1 n1 c1 k1 hrs1 hn1 hc1 => ?_))
      have hp1 := i32s_pl hrs1
      conv => whnf
      repeat' ((first | ((with_reducible refine y'r ?_ ?_); (· decide +kernel)) | ((with_reducible refine y'g ?_ ?_); (· exact ⟨_, rfl⟩)) | (with_reducible first | refine y'b ‹_› ?_ | refine y'n ‹_› ?_ | refine y'1 ‹_› ?_ | refine y'2 ‹_› ?_ | refine y'3 ?_ | refine y'4 ?_) | ((with_reducible refine y'n ?_ ?_); (· first | with_reducible assumption | exact decide_eq_true (by omega) | decide +kernel)) | (with_reducible first | refine y'n (y'7 ‹_› ‹_›) ?_ | refine y'v (y'8 ‹_› ‹_›) (fun s hs => ?_) | refine y'5 ‹_› ?_ | refine y'6 ‹_› ?_) | ((with_reducible apply y'o); (· first | exact g0 | exact g1)) | ((with_reducible refine y'p ?_ ?_); (· rfl)) | ((with_reducible refine y'q ?_ ?_); (· rfl)) | fail) <;> (conv => whnf))
      refine Fn.frame [] (by rfl) (by exact trivial) (by rfl) (ka (fun rs2 X2 n2 c2 k2 hrs2 hn2 hc2 => ?_))
      have hp2 := i32s_pl hrs2
      conv => whnf
      repeat' ((first | ((with_reducible refine y'r ?_ ?_); (· decide +kernel)) | ((with_reducible refine y'g ?_ ?_); (· exact ⟨_, rfl⟩)) | (with_reducible first | refine y'b ‹_› ?_ | refine y'n ‹_› ?_ | refine y'1 ‹_› ?_ | refine y'2 ‹_› ?_ | refine y'3 ?_ | refine y'4 ?_) | ((with_reducible refine y'n ?_ ?_); (· first | with_reducible assumption | exact decide_eq_true (by omega) | decide +kernel)) | (with_reducible first | refine y'n (y'7 ‹_› ‹_›) ?_ | refine y'v (y'8 ‹_› ‹_›) (fun s hs => ?_) | refine y'5 ‹_› ?_ | refine y'6 ‹_› ?_) | ((with_reducible apply y'o); (· first | exact g0 | exact g1)) | ((with_reducible refine y'p ?_ ?_); (· rfl)) | ((with_reducible refine y'q ?_ ?_); (· rfl)) | fail) <;> (conv => whnf))
      refine Fn.frame [] (by rfl) (by exact trivial) (by rfl) (kp (fun hno => absurd ⟨Va.runes L, hL3, rfl⟩ hno) (fun rl fs rs3 Y3 X3 n3 c3 n4 c4 k3 k4 hra hrr hre hfs hn3 hrs3 hn4 => ?_))
      obtain rfl : rl = L := flat_inj hra hL1 (by injection hre with _ h; exact h.symm)
      have hp3 := i32s_pl hrs3
      have hpf := f64s_pl hfs
      clear ka kp ko kr ks2
      conv => whnf
      repeat' ((first | ((with_reducible refine y'r ?_ ?_); (· decide +kernel)) | ((with_reducible refine y'g ?_ ?_); (· exact ⟨_, rfl⟩)) | (with_reducible first | refine y'b ‹_› ?_ | refine y'n ‹_› ?_ | refine y'1 ‹_› ?_ | refine y'2 ‹_› ?_ | refine y'3 ?_ | refine y'4 ?_) | ((with_reducible refine y'n ?_ ?_); (· first | with_reducible assumption | exact decide_eq_true (by omega) | decide +kernel)) | (with_reducible first | refine y'n (y'7 ‹_› ‹_›) ?_ | refine y'v (y'8 ‹_› ‹_›) (fun s hs => ?_) | refine y'5 ‹_› ?_ | refine y'6 ‹_› ?_) | ((with_reducible apply y'o); (· first | exact g0 | exact g1)) | ((with_reducible refine y'p ?_ ?_); (· rfl)) | ((with_reducible refine y'q ?_ ?_); (· rfl)) | fail) <;> (conv => whnf))
      have hlf : rl.length ≤ 39 := Nat.le_trans (flat_few rl) hL3.2.2
      have hl1 : rs1.length = c1 := by rw [hrs1, i32s_len, List.length_append, hc1, hn1]
      refine Fn.frame [2, 5] (by rfl) (by exact ⟨ren_pl hp1 _ _ _, ren_pl hp3 _ _ _, trivial⟩) (by simp [nodupb, V.okb, A.okb, Ob.okb, hp1.2, hp3.2] <;> decide) (sameR rl X1 X3 rs1 rs3 n1 c1 n4 c4 k1 k4 hrs1 hrs3 hn1 hn4 (by omega) ?_)
      conv => whnf
      repeat' ((first | ((with_reducible refine y'r ?_ ?_); (· decide +kernel)) | ((with_reducible refine y'g ?_ ?_); (· exact ⟨_, rfl⟩)) | (with_reducible first | refine y'b ‹_› ?_ | refine y'n ‹_› ?_ | refine y'1 ‹_› ?_ | refine y'2 ‹_› ?_ | refine y'3 ?_ | refine y'4 ?_) | ((with_reducible refine y'n ?_ ?_); (· first | with_reducible assumption | exact decide_eq_true (by omega) | decide +kernel)) | (with_reducible first | refine y'n (y'7 ‹_› ‹_›) ?_ | refine y'v (y'8 ‹_› ‹_›) (fun s hs => ?_) | refine y'5 ‹_› ?_ | refine y'6 ‹_› ?_) | ((with_reducible apply y'o); (· first | exact g0 | exact g1)) | ((with_reducible refine y'p ?_ ?_); (· rfl)) | ((with_reducible refine y'q ?_ ?_); (· rfl)) | fail) <;> (conv => whnf))
      refine cutx_of (fun F H => ∃ (L Xb Xw : List Nat) (ar bb ws fs : List A) (na ca nb cb nw cw nf cf : Nat) (ka kb kw kf : Bool) (kk : Int), Pl ar ∧ ar.length = ca ∧ na ≤ ca ∧ na ≤ 1000 ∧ bb = i32s (L ++ Xb) ∧ nb = L.length ∧ ws = i32s (L ++ Xw) ∧ nw = L.length ∧ L.length ≤ 1000 ∧ Pl fs ∧ F = [(3, .a (.slc 0 0 n q)), (9, .a (.slc 1 0 na ca)), (11, .a (.slc 2 0 nb cb)), (13, .a (.ptr 5 0))] ∧ H = [.cells m2 21 false, .cells ar 21 ka, .cells bb 21 kb, .cells fs 23 kf, .cells ws 21 kw, .cells [.int .u8 kk, .bool false, .slc 3 0 nf cf, .nils, .slc 4 0 nw cw] 57 false]) (Into.weak [0, 2, 3, 4, 5, 6] [(3, .a (.slc 0 0 n q)), (9, .a (.slc 1 0 n1 c1)), (11, .a (.slc 2 0 n2 c2)), (13, .a (.ptr 5 0))] [.cells m2 21 false, .cells rs1 21 k1, .cells rs2 21 k2, .cells fs 23 k3, .cells rs3 21 k4, .cells [.int .u8 4, .bool false, .slc 3 0 n3 c3, .nils, .slc 4 0 n4 c4] 57 false]
        ⟨rl, X2, X3, rs1, rs2, rs3, fs, n1, c1, n2, c2, n4, c4, n3, c3, k1, k2, k4, k3, 4, hp1, hl1, by omega, by omega, hrs2, hn2, hrs3, hn4, by omega, hpf, rfl, rfl⟩ ⟨rfl, rfl, rfl, rfl, trivial⟩ ⟨ren_pl hm2p _ _ _, ren_pl hp1 _ _ _, ren_pl hp2 _ _ _, ren_pl hpf _ _ _, ren_pl hp3 _ _ _, rfl, trivial⟩ (by simp [nodupb, baseb, Ob.okb, frmOk, V.okb, A.okb, hm2p.2, hp1.2, hp2.2, hp3.2, hpf.2] <;> decide)) ?_
      clear hl1 hlf hpf hp3 hre hrr hra hfs hn3 hrs3 hn4 hp2 hrs2 hn2 hc2 hp1 hrs1 hn1 hc1
    case' inr =>
      obtain ⟨e, he⟩ : ∃ e, e = (rnO Z).2 := ⟨_, rfl⟩
      rw [hr1, ← he] at ko kr
      rw [← he] at hr2
      have hnv : ¬ IsVa [] := by
        rintro ⟨v, hv, h⟩
        cases v <;> simp [Va.bytes] at h
      have kap := @apartAll ro []
      have kas := @asRunes0 ro [] (by rw [kd_no hnv]; decide)
      obtain ⟨u, hu⟩ : ∃ u, u = bs [] := ⟨_, rfl⟩
      rw [← hu] at ko kr kap kas
      have f1 : (!(u.data.toList == u.data.toList)) = false := by simp
      have f2 : (e != e) = false := by simp
      have f3 : (e == 0) = false := by simp; exact hr2
      have f4 : (!(((120 : Int) == 0) == (e == 0))) = false := by rw [f3]; rfl
      conv => whnf
      repeat' ((first | rw [hw1] | rw [hw0] | ((with_reducible refine y'r ?_ ?_); (· decide +kernel)) | ((with_reducible refine y'g ?_ ?_); (· exact ⟨_, rfl⟩)) | (with_reducible first | refine y'b ‹_› ?_ | refine y'n ‹_› ?_ | refine y'1 ‹_› ?_ | refine y'2 ‹_› ?_ | refine y'3 ?_ | refine y'4 ?_) | ((with_reducible refine y'n ?_ ?_); (· first | with_reducible assumption | exact decide_eq_true (by omega) | decide +kernel)) | (with_reducible first | refine y'n (y'7 ‹_› ‹_›) ?_ | refine y'v (y'8 ‹_› ‹_›) (fun s hs => ?_) | refine y'5 ‹_› ?_ | refine y'6 ‹_› ?_) | ((with_reducible apply y'o); (· first | exact g0 | exact g1)) | ((with_reducible refine y'p ?_ ?_); (· rfl)) | ((with_reducible refine y'q ?_ ?_); (· rfl)) | ((with_reducible apply y'o); (· first | exact hg7 | exact hg8 | exact hz7 h0 | exact hz8 h0)) | (refine Fn.frame [0] (by rfl) (by exact ⟨ren_pl hm2p _ _ _, trivial⟩) (by simp [nodupb, V.okb, A.okb, Ob.okb, hm2p.2] <;> decide) (ko ?_)) | (refine Fn.frame [0] (by rfl) (by exact ⟨ren_pl hm2p _ _ _, trivial⟩) (by simp [nodupb, V.okb, A.okb, Ob.okb, hm2p.2] <;> decide) (ks2 ?_)) | (refine Fn.frame [] (by rfl) (by exact trivial) (by rfl) (kr ?_)) | fail) <;> (conv => whnf))
      refine Fn.frame [] (by rfl) (by exact trivial) (by rfl) (kas ?_)
      conv => whnf
      repeat' ((first | ((with_reducible refine y'r ?_ ?_); (· decide +kernel)) | ((with_reducible refine y'g ?_ ?_); (· exact ⟨_, rfl⟩)) | (with_reducible first | refine y'b ‹_› ?_ | refine y'n ‹_› ?_ | refine y'1 ‹_› ?_ | refine y'2 ‹_› ?_ | refine y'3 ?_ | refine y'4 ?_) | ((with_reducible refine y'n ?_ ?_); (· first | with_reducible assumption | exact decide_eq_true (by omega) | decide +kernel)) | (with_reducible first | refine y'n (y'7 ‹_› ‹_›) ?_ | refine y'v (y'8 ‹_› ‹_›) (fun s hs => ?_) | refine y'5 ‹_› ?_ | refine y'6 ‹_› ?_) | ((with_reducible apply y'o); (· first | exact g0 | exact g1)) | ((with_reducible refine y'p ?_ ?_); (· rfl)) | ((with_reducible refine y'q ?_ ?_); (· rfl)) | fail) <;> (conv => whnf))
      refine Fn.frame [] (by rfl) (by exact trivial) (by rfl) (kas ?_)
      conv => whnf
      repeat' ((first | ((with_reducible refine y'r ?_ ?_); (· decide +kernel)) | ((with_reducible refine y'g ?_ ?_); (· exact ⟨_, rfl⟩)) | (with_reducible first | refine y'b ‹_› ?_ | refine y'n ‹_› ?_ | refine y'1 ‹_› ?_ | refine y'2 ‹_› ?_ | refine y'3 ?_ | refine y'4 ?_) | ((with_reducible refine y'n ?_ ?_); (· first | with_reducible assumption | exact decide_eq_true (by omega) | decide +kernel)) | (with_reducible first | refine y'n (y'7 ‹_› ‹_›) ?_ | refine y'v (y'8 ‹_› ‹_›) (fun s hs => ?_) | refine y'5 ‹_› ?_ | refine y'6 ‹_› ?_) | ((with_reducible apply y'o); (· first | exact g0 | exact g1)) | ((with_reducible refine y'p ?_ ?_); (· rfl)) | ((with_reducible refine y'q ?_ ?_); (· rfl)) | fail) <;> (conv => whnf))
      refine Fn.frame [] (by rfl) (by exact trivial) (by rfl) (kap (fun _ => ?_) (fun v hv hvb => absurd ⟨v, hv, hvb⟩ hnv) (fun d hd hdb => absurd ⟨Va.tally d, hd, hdb⟩ hnv))
      conv => whnf
      repeat' ((first | ((with_reducible refine y'r ?_ ?_); (· decide +kernel)) | ((with_reducible refine y'g ?_ ?_); (· exact ⟨_, rfl⟩)) | (with_reducible first | refine y'b ‹_› ?_ | refine y'n ‹_› ?_ | refine y'1 ‹_› ?_ | refine y'2 ‹_› ?_ | refine y'3 ?_ | refine y'4 ?_) | ((with_reducible refine y'n ?_ ?_); (· first | with_reducible assumption | exact decide_eq_true (by omega) | decide +kernel)) | (with_reducible first | refine y'n (y'7 ‹_› ‹_›) ?_ | refine y'v (y'8 ‹_› ‹_›) (fun s hs => ?_) | refine y'5 ‹_› ?_ | refine y'6 ‹_› ?_) | ((with_reducible apply y'o); (· first | exact g0 | exact g1)) | ((with_reducible refine y'p ?_ ?_); (· rfl)) | ((with_reducible refine y'q ?_ ?_); (· rfl)) | fail) <;> (conv => whnf))
      refine Fn.frame [] (by rfl) (by exact trivial) (by rfl) (sameN ?_)
      conv => whnf
      repeat' ((first | ((with_reducible refine y'r ?_ ?_); (· decide +kernel)) | ((with_reducible refine y'g ?_ ?_); (· exact ⟨_, rfl⟩)) | (with_reducible first | refine y'b ‹_› ?_ | refine y'n ‹_› ?_ | refine y'1 ‹_› ?_ | refine y'2 ‹_› ?_ | refine y'3 ?_ | refine y'4 ?_) | ((with_reducible refine y'n ?_ ?_); (· first | with_reducible assumption | exact decide_eq_true (by omega) | decide +kernel)) | (with_reducible first | refine y'n (y'7 ‹_› ‹_›) ?_ | refine y'v (y'8 ‹_› ‹_›) (fun s hs => ?_) | refine y'5 ‹_› ?_ | refine y'6 ‹_› ?_) | ((with_reducible apply y'o); (· first | exact g0 | exact g1)) | ((with_reducible refine y'p ?_ ?_); (· rfl)) | ((with_reducible refine y'q ?_ ?_); (· rfl)) | fail) <;> (conv => whnf))
      refine cutx_of (fun F H => ∃ (L Xb Xw : List Nat) (ar bb ws fs : List A) (na ca nb cb nw cw nf cf : Nat) (ka kb kw kf : Bool) (kk : Int), Pl ar ∧ ar.length = ca ∧ na ≤ ca ∧ na ≤ 1000 ∧ bb = i32s (L ++ Xb) ∧ nb = L.length ∧ ws = i32s (L ++ Xw) ∧ nw = L.length ∧ L.length ≤ 1000 ∧ Pl fs ∧ F = [(3, .a (.slc 0 0 n q)), (9, .a (.slc 1 0 na ca)), (11, .a (.slc 2 0 nb cb)), (13, .a (.ptr 5 0))] ∧ H = [.cells m2 21 false, .cells ar 21 ka, .cells bb 21 kb, .cells fs 23 kf, .cells ws 21 kw, .cells [.int .u8 kk, .bool false, .slc 3 0 nf cf, .nils, .slc 4 0 nw cw] 57 false]) ?_ ?_
      · refine Into.ghost 3 [(3, .a (.slc 0 0 n q)), (9, .a (.slc 3 0 0 0)), (11, .a (.slc 4 0 0 0)), (13, .a (.ptr 2 0))] [.cells m2 21 false, .cells [.int .i32 (-7), .int .i32 (-8)] 21 false, .cells [.int .u8 0, .bool false, .slc 5 0 0 0, .nils, .slc 6 0 0 0] 57 false, .cells [] 21 false, .cells [] 21 false, .cells [] 23 false, .cells [] 21 false] rfl ⟨rfl, rfl, rfl, rfl, trivial⟩ ⟨ung_pl hm2p.1 _ _ _, rfl, rfl, rfl, rfl, rfl, rfl, trivial⟩ (by simp [Ob.okb, frmOk, V.okb, A.okb, hm2p.2] <;> decide) ?_
        exact Into.weak [0, 3, 4, 5, 6, 2] [(3, .a (.slc 0 0 n q)), (9, .a (.slc 1 0 0 0)), (11, .a (.slc 2 0 0 0)), (13, .a (.ptr 5 0))] [.cells m2 21 false, .cells [] 21 false, .cells [] 21 false, .cells [] 23 false, .cells [] 21 false, .cells [.int .u8 0, .bool false, .slc 3 0 0 0, .nils, .slc 4 0 0 0] 57 false]
          ⟨[], [], [], [], [], [], [], 0, 0, 0, 0, 0, 0, 0, 0, false, false, false, false, 0, ⟨fun _ => rfl, fun _ => rfl⟩, rfl, Nat.le_refl _, Nat.zero_le _, i32s_nil.symm, rfl, i32s_nil.symm, rfl, Nat.zero_le _, ⟨fun _ => rfl, fun _ => rfl⟩, rfl, rfl⟩ ⟨rfl, rfl, rfl, rfl, trivial⟩ ⟨ren_pl hm2p _ _ _, rfl, rfl, rfl, rfl, rfl, trivial⟩ (by simp [nodupb, baseb, Ob.okb, frmOk, V.okb, A.okb, hm2p.2] <;> decide)
      clear kap kas ko kr ks2 f1 f2 f3 f4 hnv hu u
    all_goals
      clear hz7 hz8 hg7 hg8 hw0
      rintro F H ⟨L, Xb, Xw, ar, bb, ws, fs, na, ca, nb, cb, nw, cw, nf, cf, ka, kb, kw, kf, kk, hap, hal, hna, hna9, hbb, hnb, hww, hnw, hL9, hfp, rfl, rfl⟩
      have hbp := i32s_pl hbb
      have hwp := i32s_pl hww
      conv => whnf
      repeat' ((first | ((with_reducible refine y'r ?_ ?_); (· decide +kernel)) | ((with_reducible refine y'g ?_ ?_); (· exact ⟨_, rfl⟩)) | (with_reducible first | refine y'b ‹_› ?_ | refine y'n ‹_› ?_ | refine y'1 ‹_› ?_ | refine y'2 ‹_› ?_ | refine y'3 ?_ | refine y'4 ?_) | ((with_reducible refine y'n ?_ ?_); (· first | with_reducible assumption | exact decide_eq_true (by omega) | decide +kernel)) | (with_reducible first | refine y'n (y'7 ‹_› ‹_›) ?_ | refine y'v (y'8 ‹_› ‹_›) (fun s hs => ?_) | refine y'5 ‹_› ?_ | refine y'6 ‹_› ?_) | ((with_reducible apply y'o); (· first | exact g0 | exact g1)) | ((with_reducible refine y'p ?_ ?_); (· rfl)) | ((with_reducible refine y'q ?_ ?_); (· rfl)) | fail) <;> (conv => whnf))
      refine loopx_of (fun k F H => ∃ (i : Nat) (ar : List A), i ≤ na ∧ k = na - i ∧ Pl ar ∧ ar.length = ca ∧ F = [(3, .a (.slc 0 0 n q)), (9, .a (.slc 1 0 na ca)), (11, .a (.slc 2 0 nb cb)), (13, .a (.ptr 5 0)), (14, .a (.int .i64 i))] ∧ H = [.cells m2 21 false, .cells ar 21 ka, .cells bb 21 kb, .cells fs 23 kf, .cells ws 21 kw, .cells [.int .u8 kk, .bool false, .slc 3 0 nf cf, .nils, .slc 4 0 nw cw] 57 false]) na ?_ ?_
      · exact Into.weak [0, 1, 2, 3, 4, 5] [(3, .a (.slc 0 0 n q)), (9, .a (.slc 1 0 na ca)), (11, .a (.slc 2 0 nb cb)), (13, .a (.ptr 5 0)), (14, .a (.int .i64 (0 : Nat)))] [.cells m2 21 false, .cells ar 21 ka, .cells bb 21 kb, .cells fs 23 kf, .cells ws 21 kw, .cells [.int .u8 kk, .bool false, .slc 3 0 nf cf, .nils, .slc 4 0 nw cw] 57 false] ⟨0, ar, Nat.zero_le _, rfl, hap, hal, rfl, rfl⟩ ⟨rfl, rfl, rfl, rfl, rfl, trivial⟩ ⟨ren_pl hm2p _ _ _, ren_pl hap _ _ _, ren_pl hbp _ _ _, ren_pl hfp _ _ _, ren_pl hwp _ _ _, rfl, trivial⟩ (by simp [nodupb, baseb, Ob.okb, frmOk, V.okb, A.okb, hm2p.2, hap.2, hbp.2, hfp.2, hwp.2] <;> decide)
      · clear hap hal ar
        rintro k F H ⟨i, ar, hi, rfl, hap, hal, rfl, rfl⟩
        by_cases hin : i < na
        · have d1 : decide ((i : Int) < (na : Int)) = true := decide_eq_true (by omega)
          have d2 : decide (0 ≤ (i : Int) ∧ (i : Int) < (na : Int)) = true := decide_eq_true (by omega)
          have hwi : IntKind.i64.wrap ((i : Int) + 1) = ((i + 1 : Nat) : Int) := by rw [i64w (by omega) (by omega)]; rfl
          conv => whnf
          repeat' ((first | ((with_reducible refine y'r ?_ ?_); (· decide +kernel)) | ((with_reducible refine y'g ?_ ?_); (· exact ⟨_, rfl⟩)) | (with_reducible first | refine y'b ‹_› ?_ | refine y'n ‹_› ?_ | refine y'1 ‹_› ?_ | refine y'2 ‹_› ?_ | refine y'3 ?_ | refine y'4 ?_) | ((with_reducible refine y'n ?_ ?_); (· first | with_reducible assumption | exact decide_eq_true (by omega) | decide +kernel)) | (with_reducible first | refine y'n (y'7 ‹_› ‹_›) ?_ | refine y'v (y'8 ‹_› ‹_›) (fun s hs => ?_) | refine y'5 ‹_› ?_ | refine y'6 ‹_› ?_) | ((with_reducible apply y'o); (· first | exact g0 | exact g1)) | ((with_reducible refine y'p ?_ ?_); (· rfl)) | ((with_reducible refine y'q ?_ ?_); (· rfl)) | fail) <;> (conv => whnf))
          refine y'n (decide_eq_true (by rw [s21, hal]; show 0 + i * 1 + 1 ≤ ca; omega)) ?_
          conv => whnf
          repeat' ((first | ((with_reducible refine y'r ?_ ?_); (· decide +kernel)) | ((with_reducible refine y'g ?_ ?_); (· exact ⟨_, rfl⟩)) | (with_reducible first | refine y'b ‹_› ?_ | refine y'n ‹_› ?_ | refine y'1 ‹_› ?_ | refine y'2 ‹_› ?_ | refine y'3 ?_ | refine y'4 ?_) | ((with_reducible refine y'n ?_ ?_); (· first | with_reducible assumption | exact decide_eq_true (by omega) | decide +kernel)) | (with_reducible first | refine y'n (y'7 ‹_› ‹_›) ?_ | refine y'v (y'8 ‹_› ‹_›) (fun s hs => ?_) | refine y'5 ‹_› ?_ | refine y'6 ‹_› ?_) | ((with_reducible apply y'o); (· first | exact g0 | exact g1)) | ((with_reducible refine y'p ?_ ?_); (· rfl)) | ((with_reducible refine y'q ?_ ?_); (· rfl)) | fail) <;> (conv => whnf))
          refine y'f rfl (fun ar2 har2 => ?_)
          have hst := pl_store (xs := [.int .i32 (-1)]) hap ⟨fun _ => rfl, fun _ => rfl⟩ (o := 0 + (i : Int).toNat * Tryd.prog.types[21].size) (by rw [s21, hal]; show 0 + i * 1 + 1 ≤ ca; omega)
          rw [← har2, hal] at hst
          have hap2 := hst.1
          conv => whnf
          repeat' ((first | ((with_reducible refine y'r ?_ ?_); (· decide +kernel)) | ((with_reducible refine y'g ?_ ?_); (· exact ⟨_, rfl⟩)) | (with_reducible first | refine y'b ‹_› ?_ | refine y'n ‹_› ?_ | refine y'1 ‹_› ?_ | refine y'2 ‹_› ?_ | refine y'3 ?_ | refine y'4 ?_) | ((with_reducible refine y'n ?_ ?_); (· first | with_reducible assumption | exact decide_eq_true (by omega) | decide +kernel)) | (with_reducible first | refine y'n (y'7 ‹_› ‹_›) ?_ | refine y'v (y'8 ‹_› ‹_›) (fun s hs => ?_) | refine y'5 ‹_› ?_ | refine y'6 ‹_› ?_) | ((with_reducible apply y'o); (· first | exact g0 | exact g1)) | ((with_reducible refine y'p ?_ ?_); (· rfl)) | ((with_reducible refine y'q ?_ ?_); (· rfl)) | fail) <;> (conv => whnf))
          exact ⟨na - (i + 1), by omega, Into.weak [0, 1, 2, 3, 4, 5] [(3, .a (.slc 0 0 n q)), (9, .a (.slc 1 0 na ca)), (11, .a (.slc 2 0 nb cb)), (13, .a (.ptr 5 0)), (14, .a (.int .i64 ((i + 1 : Nat) : Int)))] [.cells m2 21 false, .cells ar2 21 ka, .cells bb 21 kb, .cells fs 23 kf, .cells ws 21 kw, .cells [.int .u8 kk, .bool false, .slc 3 0 nf cf, .nils, .slc 4 0 nw cw] 57 false] ⟨i + 1, ar2, by omega, rfl, hst.1, hst.2, rfl, rfl⟩ ⟨rfl, rfl, rfl, rfl, congrArg (fun z => some (V.a (.int .i64 z))) hwi, trivial⟩ ⟨ren_pl hm2p _ _ _, ren_pl hap2 _ _ _, ren_pl hbp _ _ _, ren_pl hfp _ _ _, ren_pl hwp _ _ _, rfl, trivial⟩ (by simp [nodupb, baseb, Ob.okb, frmOk, V.okb, A.okb, hm2p.2, hap2.2, hbp.2, hfp.2, hwp.2] <;> decide)⟩
        · have d1 : decide ((i : Int) < (na : Int)) = false := decide_eq_false (by omega)
          clear hi hin
          conv => whnf
          repeat' ((first | ((with_reducible refine y'r ?_ ?_); (· decide +kernel)) | ((with_reducible refine y'g ?_ ?_); (· exact ⟨_, rfl⟩)) | (with_reducible first | refine y'b ‹_› ?_ | refine y'n ‹_› ?_ | refine y'1 ‹_› ?_ | refine y'2 ‹_› ?_ | refine y'3 ?_ | refine y'4 ?_) | ((with_reducible refine y'n ?_ ?_); (· first | with_reducible assumption | exact decide_eq_true (by omega) | decide +kernel)) | (with_reducible first | refine y'n (y'7 ‹_› ‹_›) ?_ | refine y'v (y'8 ‹_› ‹_›) (fun s hs => ?_) | refine y'5 ‹_› ?_ | refine y'6 ‹_› ?_) | ((with_reducible apply y'o); (· first | exact g0 | exact g1)) | ((with_reducible refine y'p ?_ ?_); (· rfl)) | ((with_reducible refine y'q ?_ ?_); (· rfl)) | fail) <;> (conv => whnf))
          obtain ⟨na0, hna0⟩ : ∃ x, x = na := ⟨_, rfl⟩
          refine loopx_of (fun k F H => ∃ (i na ca : Nat) (ka : Bool) (ar : List A), i ≤ 9 ∧ k = 9 - i ∧ na = na0 + i ∧ Pl ar ∧ ar.length = ca ∧ na ≤ ca ∧ F = [(3, .a (.slc 0 0 n q)), (9, .a (.slc 1 0 na ca)), (11, .a (.slc 2 0 nb cb)), (13, .a (.ptr 5 0)), (15, .a (.int .i64 i))] ∧ H = [.cells m2 21 false, .cells ar 21 ka, .cells bb 21 kb, .cells fs 23 kf, .cells ws 21 kw, .cells [.int .u8 kk, .bool false, .slc 3 0 nf cf, .nils, .slc 4 0 nw cw] 57 false]) 9 ?_ ?_
          · exact Into.weak [0, 1, 2, 3, 4, 5] [(3, .a (.slc 0 0 n q)), (9, .a (.slc 1 0 na ca)), (11, .a (.slc 2 0 nb cb)), (13, .a (.ptr 5 0)), (15, .a (.int .i64 (0 : Nat)))] [.cells m2 21 false, .cells ar 21 ka, .cells bb 21 kb, .cells fs 23 kf, .cells ws 21 kw, .cells [.int .u8 kk, .bool false, .slc 3 0 nf cf, .nils, .slc 4 0 nw cw] 57 false] ⟨0, na, ca, ka, ar, Nat.zero_le _, rfl, by omega, hap, hal, hna, rfl, rfl⟩ ⟨rfl, rfl, rfl, rfl, rfl, trivial⟩ ⟨ren_pl hm2p _ _ _, ren_pl hap _ _ _, ren_pl hbp _ _ _, ren_pl hfp _ _ _, ren_pl hwp _ _ _, rfl, trivial⟩ (by simp [nodupb, baseb, Ob.okb, frmOk, V.okb, A.okb, hm2p.2, hap.2, hbp.2, hfp.2, hwp.2] <;> decide)
          clear hap hal hna d1 ar ka ca
          replace hna9 : na0 ≤ 1000 := by omega
          clear hna0 na
          rintro k F H ⟨i, na, ca, ka, ar, hi, rfl, hna0, hap, hal, hna, rfl, rfl⟩
          by_cases hin : i < 9
          · have d1 : decide ((i : Int) < 9) = true := decide_eq_true (by omega)
            have hwi : IntKind.i64.wrap ((i : Int) + 1) = ((i + 1 : Nat) : Int) := by rw [i64w (by omega) (by omega)]; rfl
            conv => whnf
            repeat' ((first | ((with_reducible refine y'r ?_ ?_); (· decide +kernel)) | ((with_reducible refine y'g ?_ ?_); (· exact ⟨_, rfl⟩)) | (with_reducible first | refine y'b ‹_› ?_ | refine y'n ‹_› ?_ | refine y'1 ‹_› ?_ | refine y'2 ‹_› ?_ | refine y'3 ?_ | refine y'4 ?_) | ((with_reducible refine y'n ?_ ?_); (· first | with_reducible assumption | exact decide_eq_true (by omega) | decide +kernel)) | (with_reducible first | refine y'n (y'7 ‹_› ‹_›) ?_ | refine y'v (y'8 ‹_› ‹_›) (fun s hs => ?_) | refine y'5 ‹_› ?_ | refine y'6 ‹_› ?_) | ((with_reducible apply y'o); (· first | exact g0 | exact g1)) | ((with_reducible refine y'p ?_ ?_); (· rfl)) | ((with_reducible refine y'q ?_ ?_); (· rfl)) | fail) <;> (conv => whnf))
            refine y'c (fun hc => ?_) (fun hc => ?_)
            · have hc' := of_decide_eq_true hc
              conv => whnf
              refine y'n (decide_eq_true (by rw [s21, hal]; show 0 + na * 1 + 1 ≤ ca; omega)) ?_
              conv => whnf
              repeat' ((first | ((with_reducible refine y'r ?_ ?_); (· decide +kernel)) | ((with_reducible refine y'g ?_ ?_); (· exact ⟨_, rfl⟩)) | (with_reducible first | refine y'b ‹_› ?_ | refine y'n ‹_› ?_ | refine y'1 ‹_› ?_ | refine y'2 ‹_› ?_ | refine y'3 ?_ | refine y'4 ?_) | ((with_reducible refine y'n ?_ ?_); (· first | with_reducible assumption | exact decide_eq_true (by omega) | decide +kernel)) | (with_reducible first | refine y'n (y'7 ‹_› ‹_›) ?_ | refine y'v (y'8 ‹_› ‹_›) (fun s hs => ?_) | refine y'5 ‹_› ?_ | refine y'6 ‹_› ?_) | ((with_reducible apply y'o); (· first | exact g0 | exact g1)) | ((with_reducible refine y'p ?_ ?_); (· rfl)) | ((with_reducible refine y'q ?_ ?_); (· rfl)) | fail) <;> (conv => whnf))
              refine y'f rfl (fun ar2 har2 => ?_)
              have hst := pl_store (xs := [.int .i32 (-2)]) hap ⟨fun _ => rfl, fun _ => rfl⟩ (o := 0 + na * Tryd.prog.types[21].size) (by rw [s21, hal]; show 0 + na * 1 + 1 ≤ ca; omega)
              replace hst : Pl ar2 ∧ ar2.length = ar.length := by rw [har2]; exact hst
              rw [hal] at hst
              have hap2 := hst.1
              clear har2
              conv => whnf
              repeat' ((first | ((with_reducible refine y'r ?_ ?_); (· decide +kernel)) | ((with_reducible refine y'g ?_ ?_); (· exact ⟨_, rfl⟩)) | (with_reducible first | refine y'b ‹_› ?_ | refine y'n ‹_› ?_ | refine y'1 ‹_› ?_ | refine y'2 ‹_› ?_ | refine y'3 ?_ | refine y'4 ?_) | ((with_reducible refine y'n ?_ ?_); (· first | with_reducible assumption | exact decide_eq_true (by omega) | decide +kernel)) | (with_reducible first | refine y'n (y'7 ‹_› ‹_›) ?_ | refine y'v (y'8 ‹_› ‹_›) (fun s hs => ?_) | refine y'5 ‹_› ?_ | refine y'6 ‹_› ?_) | ((with_reducible apply y'o); (· first | exact g0 | exact g1)) | ((with_reducible refine y'p ?_ ?_); (· rfl)) | ((with_reducible refine y'q ?_ ?_); (· rfl)) | fail) <;> (conv => whnf))
              exact ⟨9 - (i + 1), by omega, Into.weak [0, 1, 2, 3, 4, 5] [(3, .a (.slc 0 0 n q)), (9, .a (.slc 1 0 (na + 1) ca)), (11, .a (.slc 2 0 nb cb)), (13, .a (.ptr 5 0)), (15, .a (.int .i64 ((i + 1 : Nat) : Int)))] [.cells m2 21 false, .cells ar2 21 ka, .cells bb 21 kb, .cells fs 23 kf, .cells ws 21 kw, .cells [.int .u8 kk, .bool false, .slc 3 0 nf cf, .nils, .slc 4 0 nw cw] 57 false] ⟨i + 1, na + 1, ca, ka, ar2, by omega, rfl, by omega, hst.1, hst.2, hc', rfl, rfl⟩ ⟨rfl, rfl, rfl, rfl, congrArg (fun z => some (V.a (.int .i64 z))) hwi, trivial⟩ ⟨ren_pl hm2p _ _ _, ren_pl hap2 _ _ _, ren_pl hbp _ _ _, ren_pl hfp _ _ _, ren_pl hwp _ _ _, rfl, trivial⟩ (by simp [nodupb, baseb, Ob.okb, frmOk, V.okb, A.okb, hm2p.2, hap2.2, hbp.2, hfp.2, hwp.2] <;> decide)⟩
            · have hc' := of_decide_eq_false hc
              conv => whnf
              refine y'n (decide_eq_true (by rw [s21, b21, hal]; omega)) ?_
              intro cap2 hcap2
              conv => whnf
              repeat' ((first | ((with_reducible refine y'r ?_ ?_); (· decide +kernel)) | ((with_reducible refine y'g ?_ ?_); (· exact ⟨_, rfl⟩)) | (with_reducible first | refine y'b ‹_› ?_ | refine y'n ‹_› ?_ | refine y'1 ‹_› ?_ | refine y'2 ‹_› ?_ | refine y'3 ?_ | refine y'4 ?_) | ((with_reducible refine y'n ?_ ?_); (· first | with_reducible assumption | exact decide_eq_true (by omega) | decide +kernel)) | (with_reducible first | refine y'n (y'7 ‹_› ‹_›) ?_ | refine y'v (y'8 ‹_› ‹_›) (fun s hs => ?_) | refine y'5 ‹_› ?_ | refine y'6 ‹_› ?_) | ((with_reducible apply y'o); (· first | exact g0 | exact g1)) | ((with_reducible refine y'p ?_ ?_); (· rfl)) | ((with_reducible refine y'q ?_ ?_); (· rfl)) | fail) <;> (conv => whnf))
              refine y'f rfl (fun ar2 har2 => ?_)
              have hst : Pl ar2 ∧ ar2.length = cap2 := by
                rw [har2]
                have h1 := pl_grow (l := ar) (x := [.int .i32 (-2)]) (o := 0 + na * Tryd.prog.types[21].size) (m := (cap2 - (na + 1)) * Tryd.prog.types[21].size) (z := .int .i32 0) hap ⟨fun _ => rfl, fun _ => rfl⟩ ⟨fun _ => rfl, fun _ => rfl⟩ (by rw [s21, hal]; omega)
                refine ⟨h1.1, h1.2.trans ?_⟩
                rw [s21]
                show 0 + na * 1 + 1 + (cap2 - (na + 1)) * 1 = cap2
                omega
              have hap2 := hst.1
              clear har2
              conv => whnf
              repeat' ((first | ((with_reducible refine y'r ?_ ?_); (· decide +kernel)) | ((with_reducible refine y'g ?_ ?_); (· exact ⟨_, rfl⟩)) | (with_reducible first | refine y'b ‹_› ?_ | refine y'n ‹_› ?_ | refine y'1 ‹_› ?_ | refine y'2 ‹_› ?_ | refine y'3 ?_ | refine y'4 ?_) | ((with_reducible refine y'n ?_ ?_); (· first | with_reducible assumption | exact decide_eq_true (by omega) | decide +kernel)) | (with_reducible first | refine y'n (y'7 ‹_› ‹_›) ?_ | refine y'v (y'8 ‹_› ‹_›) (fun s hs => ?_) | refine y'5 ‹_› ?_ | refine y'6 ‹_› ?_) | ((with_reducible apply y'o); (· first | exact g0 | exact g1)) | ((with_reducible refine y'p ?_ ?_); (· rfl)) | ((with_reducible refine y'q ?_ ?_); (· rfl)) | fail) <;> (conv => whnf))
              exact ⟨9 - (i + 1), by omega, Into.weak [0, 7, 2, 3, 4, 5] [(3, .a (.slc 0 0 n q)), (9, .a (.slc 1 0 (na + 1) cap2)), (11, .a (.slc 2 0 nb cb)), (13, .a (.ptr 5 0)), (15, .a (.int .i64 ((i + 1 : Nat) : Int)))] [.cells m2 21 false, .cells ar2 21 false, .cells bb 21 kb, .cells fs 23 kf, .cells ws 21 kw, .cells [.int .u8 kk, .bool false, .slc 3 0 nf cf, .nils, .slc 4 0 nw cw] 57 false] ⟨i + 1, na + 1, cap2, false, ar2, by omega, rfl, by omega, hst.1, hst.2, hcap2, rfl, rfl⟩ ⟨rfl, rfl, rfl, rfl, congrArg (fun z => some (V.a (.int .i64 z))) hwi, trivial⟩ ⟨ren_pl hm2p _ _ _, ren_pl hap2 _ _ _, ren_pl hbp _ _ _, ren_pl hfp _ _ _, ren_pl hwp _ _ _, rfl, trivial⟩ (by simp [nodupb, baseb, Ob.okb, frmOk, V.okb, A.okb, hm2p.2, hap2.2, hbp.2, hfp.2, hwp.2] <;> decide)⟩
          · have d1 : decide ((i : Int) < 9) = false := decide_eq_false (by omega)
            have d9 : decide ((na : Int) ≥ 9) = true := decide_eq_true (by omega)
            clear hi hin hna0
            conv => whnf
            repeat' ((first | ((with_reducible refine y'r ?_ ?_); (· decide +kernel)) | ((with_reducible refine y'g ?_ ?_); (· exact ⟨_, rfl⟩)) | (with_reducible first | refine y'b ‹_› ?_ | refine y'n ‹_› ?_ | refine y'1 ‹_› ?_ | refine y'2 ‹_› ?_ | refine y'3 ?_ | refine y'4 ?_) | ((with_reducible refine y'n ?_ ?_); (· first | with_reducible assumption | exact decide_eq_true (by omega) | decide +kernel)) | (with_reducible first | refine y'n (y'7 ‹_› ‹_›) ?_ | refine y'v (y'8 ‹_› ‹_›) (fun s hs => ?_) | refine y'5 ‹_› ?_ | refine y'6 ‹_› ?_) | ((with_reducible apply y'o); (· first | exact g0 | exact g1)) | ((with_reducible refine y'p ?_ ?_); (· rfl)) | ((with_reducible refine y'q ?_ ?_); (· rfl)) | fail) <;> (conv => whnf))
            refine loopx_of (fun k F H => ∃ (i : Nat) (ms : List A), i ≤ n ∧ k = n - i ∧ ms = z32 (gm Z i ++ [-7, -8, 0, 0]) ∧ F = [(3, .a (.slc 0 0 n q)), (9, .a (.slc 1 0 na ca)), (11, .a (.slc 2 0 nb cb)), (13, .a (.ptr 5 0)), (16, .a (.int .i64 i))] ∧ H = [.cells ms 21 false, .cells ar 21 ka, .cells bb 21 kb, .cells fs 23 kf, .cells ws 21 kw, .cells [.int .u8 kk, .bool false, .slc 3 0 nf cf, .nils, .slc 4 0 nw cw] 57 false]) n ?_ ?_
            · exact Into.weak [0, 1, 2, 3, 4, 5] [(3, .a (.slc 0 0 n q)), (9, .a (.slc 1 0 na ca)), (11, .a (.slc 2 0 nb cb)), (13, .a (.ptr 5 0)), (16, .a (.int .i64 (0 : Nat)))] [.cells m2 21 false, .cells ar 21 ka, .cells bb 21 kb, .cells fs 23 kf, .cells ws 21 kw, .cells [.int .u8 kk, .bool false, .slc 3 0 nf cf, .nils, .slc 4 0 nw cw] 57 false] ⟨0, m2, Nat.zero_le _, rfl, hm2, rfl, rfl⟩ ⟨rfl, rfl, rfl, rfl, rfl, trivial⟩ ⟨ren_pl hm2p _ _ _, ren_pl hap _ _ _, ren_pl hbp _ _ _, ren_pl hfp _ _ _, ren_pl hwp _ _ _, rfl, trivial⟩ (by simp [nodupb, baseb, Ob.okb, frmOk, V.okb, A.okb, hm2p.2, hap.2, hbp.2, hfp.2, hwp.2] <;> decide)
            clear d1 hz2 hm2p hm2 m2
            rintro k F H ⟨i, ms, hi, rfl, hms, rfl, rfl⟩
            have hmp : Pl ms := hms ▸ z32_pl _
            have hml : ms.length = n + 4 := by rw [hms, z32_len, List.length_append, gm_len]; show Z.length + 4 = _; omega
            by_cases hin : i < n
            · have d1 : decide ((i : Int) < (n : Int)) = true := decide_eq_true (by omega)
              have d2 : decide (0 ≤ (i : Int) ∧ (i : Int) < (n : Int)) = true := decide_eq_true (by omega)
              have hwi : IntKind.i64.wrap ((i : Int) + 1) = ((i + 1 : Nat) : Int) := by rw [i64w (by omega) (by omega)]; rfl
              obtain ⟨z, hzi⟩ : ∃ z, Z[i]? = some z := ⟨_, List.getElem?_eq_getElem (by omega)⟩
              clear g0
              have g0 : ms[0 + (i : Int).toNat * Tryd.prog.types[21].size]? = some (.int .i32 z) := by
                rw [Int.toNat_natCast, s21, Nat.mul_one, Nat.zero_add, hms]
                exact z32_get (by rw [List.getElem?_append_left (by rw [gm_len]; omega)]; exact gm_get hzi)
              have hst : storeL ms (0 + (i : Int).toNat * Tryd.prog.types[21].size) [.int .i32 (IntKind.i32.wrap (z.tmod 90 + 65))] = z32 (gm Z (i + 1) ++ [-7, -8, 0, 0]) := by
                rw [Int.toNat_natCast, s21, Nat.mul_one, Nat.zero_add, hms]
                exact z32_gm hzi
              conv => whnf
              repeat' ((first | ((with_reducible refine y'r ?_ ?_); (· decide +kernel)) | ((with_reducible refine y'g ?_ ?_); (· exact ⟨_, rfl⟩)) | (with_reducible first | refine y'b ‹_› ?_ | refine y'n ‹_› ?_ | refine y'1 ‹_› ?_ | refine y'2 ‹_› ?_ | refine y'3 ?_ | refine y'4 ?_) | ((with_reducible refine y'n ?_ ?_); (· first | with_reducible assumption | exact decide_eq_true (by omega) | decide +kernel)) | (with_reducible first | refine y'n (y'7 ‹_› ‹_›) ?_ | refine y'v (y'8 ‹_› ‹_›) (fun s hs => ?_) | refine y'5 ‹_› ?_ | refine y'6 ‹_› ?_) | ((with_reducible apply y'o); (· first | exact g0 | exact g1)) | ((with_reducible refine y'p ?_ ?_); (· rfl)) | ((with_reducible refine y'q ?_ ?_); (· rfl)) | fail) <;> (conv => whnf))
              have hfit : 0 + (i : Int).toNat * Tryd.prog.types[21].size + 1 ≤ ms.length := by rw [s21, hml]; show 0 + i * 1 + 1 ≤ n + 4; omega
              try (refine y'n ?_ ?_; (· first | exact decide_eq_true hfit | (rw [Bool.and_eq_true]; exact ⟨rfl, decide_eq_true hfit⟩)))
              conv => whnf
              repeat' ((first | ((with_reducible refine y'r ?_ ?_); (· decide +kernel)) | ((with_reducible refine y'g ?_ ?_); (· exact ⟨_, rfl⟩)) | (with_reducible first | refine y'b ‹_› ?_ | refine y'n ‹_› ?_ | refine y'1 ‹_› ?_ | refine y'2 ‹_› ?_ | refine y'3 ?_ | refine y'4 ?_) | ((with_reducible refine y'n ?_ ?_); (· first | with_reducible assumption | exact decide_eq_true (by omega) | decide +kernel)) | (with_reducible first | refine y'n (y'7 ‹_› ‹_›) ?_ | refine y'v (y'8 ‹_› ‹_›) (fun s hs => ?_) | refine y'5 ‹_› ?_ | refine y'6 ‹_› ?_) | ((with_reducible apply y'o); (· first | exact g0 | exact g1)) | ((with_reducible refine y'p ?_ ?_); (· rfl)) | ((with_reducible refine y'q ?_ ?_); (· rfl)) | fail) <;> (conv => whnf))
              refine y'f hst (fun ms2 hms2 => ?_)
              have hm2p : Pl ms2 := hms2 ▸ z32_pl _
              conv => whnf
              repeat' ((first | ((with_reducible refine y'r ?_ ?_); (· decide +kernel)) | ((with_reducible refine y'g ?_ ?_); (· exact ⟨_, rfl⟩)) | (with_reducible first | refine y'b ‹_› ?_ | refine y'n ‹_› ?_ | refine y'1 ‹_› ?_ | refine y'2 ‹_› ?_ | refine y'3 ?_ | refine y'4 ?_) | ((with_reducible refine y'n ?_ ?_); (· first | with_reducible assumption | exact decide_eq_true (by omega) | decide +kernel)) | (with_reducible first | refine y'n (y'7 ‹_› ‹_›) ?_ | refine y'v (y'8 ‹_› ‹_›) (fun s hs => ?_) | refine y'5 ‹_› ?_ | refine y'6 ‹_› ?_) | ((with_reducible apply y'o); (· first | exact g0 | exact g1)) | ((with_reducible refine y'p ?_ ?_); (· rfl)) | ((with_reducible refine y'q ?_ ?_); (· rfl)) | fail) <;> (conv => whnf))
              exact ⟨n - (i + 1), by omega, Into.weak [0, 1, 2, 3, 4, 5] [(3, .a (.slc 0 0 n q)), (9, .a (.slc 1 0 na ca)), (11, .a (.slc 2 0 nb cb)), (13, .a (.ptr 5 0)), (16, .a (.int .i64 ((i + 1 : Nat) : Int)))] [.cells ms2 21 false, .cells ar 21 ka, .cells bb 21 kb, .cells fs 23 kf, .cells ws 21 kw, .cells [.int .u8 kk, .bool false, .slc 3 0 nf cf, .nils, .slc 4 0 nw cw] 57 false] ⟨i + 1, ms2, by omega, rfl, hms2, rfl, rfl⟩ ⟨rfl, rfl, rfl, rfl, congrArg (fun z => some (V.a (.int .i64 z))) hwi, trivial⟩ ⟨ren_pl hm2p _ _ _, ren_pl hap _ _ _, ren_pl hbp _ _ _, ren_pl hfp _ _ _, ren_pl hwp _ _ _, rfl, trivial⟩ (by simp [nodupb, baseb, Ob.okb, frmOk, V.okb, A.okb, hm2p.2, hap.2, hbp.2, hfp.2, hwp.2] <;> decide)⟩
            · have d1 : decide ((i : Int) < (n : Int)) = false := decide_eq_false (by omega)
              obtain rfl : i = n := by omega
              rw [hn, gm_all] at hms
              obtain ⟨Z2, hZ2⟩ : ∃ Z2, Z2 = Z.map (fun z : Int => IntKind.i32.wrap (z.tmod 90 + 65)) := ⟨_, rfl⟩
              have hn2 : i = Z2.length := by rw [hZ2, List.length_map, hn]
              rw [← hZ2] at hms
              have hzz : Rz Z2 ms := by rw [hms, z32_append]; exact Rz.of (z32_pl _)
              have ko := @ownRunes ro hT Z2 ms i q false hzz hn2 (by omega)
              obtain ⟨u, hu⟩ : ∃ u, u = bs (rnO Z2).1 := ⟨_, rfl⟩
              obtain ⟨e, he⟩ : ∃ e, e = (rnO Z2).2 := ⟨_, rfl⟩
              rw [← hu, ← he] at ko
              have f1 : (u.data.toList == u.data.toList) = true := by simp
              have f2 : (e == e) = true := by simp
              have kr2 : ∀ (X : List Nat) (cs : List A) (m cap : Nat) (mk : Bool), cs = z32 Z2 ++ i32s X → m = i → ∀ {K : V → Hp → Prop}, K (.t [.a (.str u), .a (.int .i64 e)]) [.cells cs 21 mk] → Go.Eng.Fn Tryd.prog ro 38 [.a (.slc 0 0 m cap)] [.cells cs 21 mk] K := fun X cs m cap mk hcs hm K hK => refRunesS Z2 X cs m cap mk hcs (hm.trans hn2) (by omega) (by rw [← hu, ← he]; exact hK)
              have kss := @sameR ro L Xb Xw bb ws nb cb nw cw kb kw hbb hww hnb hnw (by omega)
              obtain ⟨zr, hzr⟩ : ∃ zr, zr = List.drop 0 (List.take (0 + i * Tryd.prog.types[21].size) ms) := ⟨_, rfl⟩
              have hzr2 : zr = z32 Z2 := by rw [hzr, s21, Nat.mul_one, hms]; exact z32_take hn2
              have hzl : zr.length = i := by rw [hzr2, z32_len, hn2]
              clear hms hu he
              conv => whnf
              repeat' ((first | ((with_reducible refine y'r ?_ ?_); (· decide +kernel)) | ((with_reducible refine y'g ?_ ?_); (· exact ⟨_, rfl⟩)) | (with_reducible first | refine y'b ‹_› ?_ | refine y'n ‹_› ?_ | refine y'1 ‹_› ?_ | refine y'2 ‹_› ?_ | refine y'3 ?_ | refine y'4 ?_) | ((with_reducible refine y'n ?_ ?_); (· first | with_reducible assumption | exact decide_eq_true (by omega) | decide +kernel)) | (with_reducible first | refine y'n (y'7 ‹_› ‹_›) ?_ | refine y'v (y'8 ‹_› ‹_›) (fun s hs => ?_) | refine y'5 ‹_› ?_ | refine y'6 ‹_› ?_) | ((with_reducible apply y'o); (· first | exact g0 | exact g1)) | ((with_reducible refine y'p ?_ ?_); (· rfl)) | ((with_reducible refine y'q ?_ ?_); (· rfl)) | (refine Fn.frame [0] (by rfl) (by exact ⟨ren_pl hmp _ _ _, trivial⟩) (by simp [nodupb, V.okb, A.okb, Ob.okb, hmp.2] <;> decide) (ko ?_)) | fail) <;> (conv => whnf))
              refine y'n (decide_eq_true (by rw [s21, hml]; omega)) ?_
              conv => whnf
              rw [← hzr]
              clear hzr
              refine y'c (fun hc => ?_) (fun hc => ?_)
              case' refine_1 =>
                have hc' := of_decide_eq_true hc
                conv => whnf
                refine y'n (decide_eq_true (by rw [hzl]; show 0 + 0 * _ + i ≤ 0; omega)) ?_
                conv => whnf
                repeat' ((first | ((with_reducible refine y'r ?_ ?_); (· decide +kernel)) | ((with_reducible refine y'g ?_ ?_); (· exact ⟨_, rfl⟩)) | (with_reducible first | refine y'b ‹_› ?_ | refine y'n ‹_› ?_ | refine y'1 ‹_› ?_ | refine y'2 ‹_› ?_ | refine y'3 ?_ | refine y'4 ?_) | ((with_reducible refine y'n ?_ ?_); (· first | with_reducible assumption | exact decide_eq_true (by omega) | decide +kernel)) | (with_reducible first | refine y'n (y'7 ‹_› ‹_›) ?_ | refine y'v (y'8 ‹_› ‹_›) (fun s hs => ?_) | refine y'5 ‹_› ?_ | refine y'6 ‹_› ?_) | ((with_reducible apply y'o); (· first | exact g0 | exact g1)) | ((with_reducible refine y'p ?_ ?_); (· rfl)) | ((with_reducible refine y'q ?_ ?_); (· rfl)) | fail) <;> (conv => whnf))
                refine y'f (l' := z32 Z2 ++ i32s []) (by rw [hzr2, show Z2 = [] from List.eq_nil_of_length_eq_zero (by omega), i32s_nil]; unfold z32; rfl) (fun cs hcs => ?_)
                have hcp : Pl cs := (hcs ▸ Rz.of (Z := Z2) (i32s_pl (L := []) rfl)).pl
                conv => whnf
                repeat' ((first | ((with_reducible refine y'r ?_ ?_); (· decide +kernel)) | ((with_reducible refine y'g ?_ ?_); (· exact ⟨_, rfl⟩)) | (with_reducible first | refine y'b ‹_› ?_ | refine y'n ‹_› ?_ | refine y'1 ‹_› ?_ | refine y'2 ‹_› ?_ | refine y'3 ?_ | refine y'4 ?_) | ((with_reducible refine y'n ?_ ?_); (· first | with_reducible assumption | exact decide_eq_true (by omega) | decide +kernel)) | (with_reducible first | refine y'n (y'7 ‹_› ‹_›) ?_ | refine y'v (y'8 ‹_› ‹_›) (fun s hs => ?_) | refine y'5 ‹_› ?_ | refine y'6 ‹_› ?_) | ((with_reducible apply y'o); (· first | exact g0 | exact g1)) | ((with_reducible refine y'p ?_ ?_); (· rfl)) | ((with_reducible refine y'q ?_ ?_); (· rfl)) | fail) <;> (conv => whnf))
                refine Fn.frame [6] (by rfl) (by exact ⟨ren_pl hcp _ _ _, trivial⟩) (by simp [nodupb, V.okb, A.okb, Ob.okb, hcp.2] <;> decide) (kr2 [] cs (0 + i) 0 false hcs (Nat.zero_add i) ?_)
              case' refine_2 =>
                have hc' := of_decide_eq_false hc
                conv => whnf
                refine y'n (decide_eq_true (by rw [s21, b21]; simp; omega)) ?_
                intro cap2 hcap2
                conv => whnf
                repeat' ((first | ((with_reducible refine y'r ?_ ?_); (· decide +kernel)) | ((with_reducible refine y'g ?_ ?_); (· exact ⟨_, rfl⟩)) | (with_reducible first | refine y'b ‹_› ?_ | refine y'n ‹_› ?_ | refine y'1 ‹_› ?_ | refine y'2 ‹_› ?_ | refine y'3 ?_ | refine y'4 ?_) | ((with_reducible refine y'n ?_ ?_); (· first | with_reducible assumption | exact decide_eq_true (by omega) | decide +kernel)) | (with_reducible first | refine y'n (y'7 ‹_› ‹_›) ?_ | refine y'v (y'8 ‹_› ‹_›) (fun s hs => ?_) | refine y'5 ‹_› ?_ | refine y'6 ‹_› ?_) | ((with_reducible apply y'o); (· first | exact g0 | exact g1)) | ((with_reducible refine y'p ?_ ?_); (· rfl)) | ((with_reducible refine y'q ?_ ?_); (· rfl)) | fail) <;> (conv => whnf))
                refine y'f (l' := z32 Z2 ++ i32s (List.replicate (cap2 - (0 + i)) 0)) (by
                  rw [hzr2, ← i32s_nat0, ← z32_zeros, s21]
                  simp only [Nat.mul_one]
                  rfl) (fun cs hcs => ?_)
                have hcp : Pl cs := (hcs ▸ Rz.of (Z := Z2) (i32s_pl (L := List.replicate (cap2 - (0 + i)) 0) rfl)).pl
                conv => whnf
                repeat' ((first | ((with_reducible refine y'r ?_ ?_); (· decide +kernel)) | ((with_reducible refine y'g ?_ ?_); (· exact ⟨_, rfl⟩)) | (with_reducible first | refine y'b ‹_› ?_ | refine y'n ‹_› ?_ | refine y'1 ‹_› ?_ | refine y'2 ‹_› ?_ | refine y'3 ?_ | refine y'4 ?_) | ((with_reducible refine y'n ?_ ?_); (· first | with_reducible assumption | exact decide_eq_true (by omega) | decide +kernel)) | (with_reducible first | refine y'n (y'7 ‹_› ‹_›) ?_ | refine y'v (y'8 ‹_› ‹_›) (fun s hs => ?_) | refine y'5 ‹_› ?_ | refine y'6 ‹_› ?_) | ((with_reducible apply y'o); (· first | exact g0 | exact g1)) | ((with_reducible refine y'p ?_ ?_); (· rfl)) | ((with_reducible refine y'q ?_ ?_); (· rfl)) | fail) <;> (conv => whnf))
                refine Fn.frame [7] (by rfl) (by exact ⟨ren_pl hcp _ _ _, trivial⟩) (by simp [nodupb, V.okb, A.okb, Ob.okb, hcp.2] <;> decide) (kr2 _ cs (0 + i) cap2 false hcs (Nat.zero_add i) ?_)
              all_goals
                conv => whnf
                repeat' ((first | ((with_reducible refine y'r ?_ ?_); (· decide +kernel)) | ((with_reducible refine y'g ?_ ?_); (· exact ⟨_, rfl⟩)) | (with_reducible first | refine y'b ‹_› ?_ | refine y'n ‹_› ?_ | refine y'1 ‹_› ?_ | refine y'2 ‹_› ?_ | refine y'3 ?_ | refine y'4 ?_) | ((with_reducible refine y'n ?_ ?_); (· first | with_reducible assumption | exact decide_eq_true (by omega) | decide +kernel)) | (with_reducible first | refine y'n (y'7 ‹_› ‹_›) ?_ | refine y'v (y'8 ‹_› ‹_›) (fun s hs => ?_) | refine y'5 ‹_› ?_ | refine y'6 ‹_› ?_) | ((with_reducible apply y'o); (· first | exact g0 | exact g1)) | ((with_reducible refine y'p ?_ ?_); (· rfl)) | ((with_reducible refine y'q ?_ ?_); (· rfl)) | (refine Fn.frame [2, 4] (by rfl) (by exact ⟨ren_pl hbp _ _ _, ren_pl hwp _ _ _, trivial⟩) (by simp [nodupb, V.okb, A.okb, Ob.okb, hbp.2, hwp.2] <;> decide) (kss ?_)) | (refine Fn.frame [] (by rfl) (by exact trivial) (by rfl) (alive25 ?_)) | fail) <;> (conv => whnf))
end
end Go.Proofs.YtimddbgnaeeggaaDoor.KD
namespace Go.Proofs.YtimddbgnaeeggaaDoor.KD
open Go.Eng
set_option maxRecDepth 100000
def KRn : List Sc := [.int .i32]
theorem topRunes (W : World) (hL : laidMetH Tryd.prog Rows.kindsRunesRow.laid W) (y : A) (len cap : Nat) (G : Nat → List A) (hG : IsSl W 1 KRn y len cap G) (hb : cap * 4 ≤ 140737488351232) :
    Go.Eng.Fn Tryd.prog (roOf W) 8 [.a y] [] (fun v _ => v = .a (.bool true)) := by
  rcases id hG with ⟨rfl, h0⟩ | ⟨p, rfl, h1, h2, _⟩
  · exact runes8 (tabs_of hL) [] .nils 0 rfl (by omega) (.inl ⟨rfl, rfl⟩)
  · have key : ∀ i, i < len → ∃ z : Int, roOf W (p.add i) (.int .i32 z) := fun i hi => by
      obtain ⟨hf, hro⟩ := hG.get hi
      unfold KRn at hf
      obtain ⟨z, r0, e0, _, g0⟩ := Fits.int hf
      obtain rfl := Fits.nil g0
      rw [e0] at hro
      have := hro 0 _ rfl
      exact ⟨z, by simpa using this⟩
    let Z : List Int := List.ofFn fun i : Fin len => Classical.choose (key i i.2)
    have hZ : len = Z.length := by show len = (List.ofFn _).length; rw [List.length_ofFn]
    refine runes8 (tabs_of hL) Z (.rslc p len cap) len hZ (by omega) (.inr ⟨p, cap, rfl, fun i z hz => ?_⟩)
    obtain ⟨hi, hz'⟩ := List.getElem?_eq_some_iff.1 hz
    have hi' : i < len := by omega
    have e : z = Classical.choose (key i hi') := by rw [← hz']; exact List.getElem_ofFn ..
    rw [e]
    exact Classical.choose_spec (key i hi')
end Go.Proofs.YtimddbgnaeeggaaDoor.KD
