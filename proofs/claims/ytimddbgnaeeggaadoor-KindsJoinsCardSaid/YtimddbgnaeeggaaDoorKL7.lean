import Derived.Test.YtimddbgnaeeggaaDoorUD
import Derived.Test.YtimddbgnaeeggaaDoorKJ
import Derived.Test.YtimddbgnaeeggaaDoorKN
import Derived.Test.YtimddbgnaeeggaaDoorKP
import Derived.Test.YtimddbgnaeeggaaDoorUA
import Derived.Test.YtimddbgnaeeggaaDoorRows
import Derived.Lib.LaidIn
import Derived.Lib.LaidU8T
import Derived.Test.YtimddbgnaeeggaaDoorRS
import Derived.Test.YtimddbgnaeeggaaDoorRF
import Derived.Test.YtimddbgnaeeggaaDoorRI
import Derived.Test.YtimddbgnaeeggaaDoorRZ
import Derived.Test.YtimddbgnaeeggaaDoorRE
import Derived.Test.YtimddbgnaeeggaaDoorRH
namespace Go.Proofs.YtimddbgnaeeggaaDoor.KD
open Go.Eng
set_option maxRecDepth 100000
/-! ### The join of values, plainly. -/
theorem mg_mem : ∀ (a b : List Nat) (r : Nat), r ∈ mg a b ↔ r ∈ a ∨ r ∈ b
  | [], b, r => by rw [mg_nil]; simp
  | x :: a, [], r => by rw [mg_nil2]; simp
  | x :: a, y :: b, r => by
    rcases Nat.lt_trichotomy x y with h | h | h
    · rw [mg_lt a b h, List.mem_cons, mg_mem a (y :: b) r, List.mem_cons, List.mem_cons]
      constructor
      · rintro (h | h | h | h) <;> simp [h]
      · rintro ((h | h) | h | h) <;> simp [h]
    · subst h
      rw [mg_eq, List.mem_cons, mg_mem a b r, List.mem_cons, List.mem_cons]
      constructor
      · rintro (h | h | h) <;> simp [h]
      · rintro ((h | h) | h | h) <;> simp [h]
    · rw [mg_gt a b h, List.mem_cons, mg_mem (x :: a) b r, List.mem_cons, List.mem_cons]
      constructor
      · rintro (h | (h | h) | h) <;> simp [h]
      · rintro ((h | h) | h | h) <;> simp [h]
termination_by a b => a.length + b.length
theorem mg_rise : ∀ {a b : List Nat}, Rise a → Rise b → Rise (mg a b)
  | [], b, _, hb => by rw [mg_nil]; exact hb
  | x :: a, [], ha, _ => by rw [mg_nil2]; exact ha
  | x :: a, y :: b, ha, hb => by
    have ha' := List.pairwise_cons.1 ha
    have hb' := List.pairwise_cons.1 hb
    rcases Nat.lt_trichotomy x y with h | h | h
    · rw [mg_lt a b h]
      refine List.pairwise_cons.2 ⟨fun r hr => ?_, mg_rise ha'.2 hb⟩
      rcases (mg_mem _ _ _).1 hr with hr | hr
      · exact ha'.1 r hr
      · rcases List.mem_cons.1 hr with rfl | hr
        · exact h
        · have := hb'.1 r hr; omega
    · subst h
      rw [mg_eq]
      refine List.pairwise_cons.2 ⟨fun r hr => ?_, mg_rise ha'.2 hb'.2⟩
      rcases (mg_mem _ _ _).1 hr with hr | hr
      · exact ha'.1 r hr
      · exact hb'.1 r hr
    · rw [mg_gt a b h]
      refine List.pairwise_cons.2 ⟨fun r hr => ?_, mg_rise ha hb'.2⟩
      rcases (mg_mem _ _ _).1 hr with hr | hr
      · rcases List.mem_cons.1 hr with rfl | hr
        · exact h
        · have := ha'.1 r hr; omega
      · exact hb'.1 r hr
termination_by a b => a.length + b.length
theorem rise_ext : ∀ {a b : List Nat}, Rise a → Rise b → (∀ r, r ∈ a ↔ r ∈ b) → a = b
  | [], [], _, _, _ => rfl
  | [], y :: b, _, _, h => by have := (h y).2 (by simp); simp at this
  | x :: a, [], _, _, h => by have := (h x).1 (by simp); simp at this
  | x :: a, y :: b, ha, hb, h => by
    have ha' := List.pairwise_cons.1 ha
    have hb' := List.pairwise_cons.1 hb
    have e : x = y := by
      rcases List.mem_cons.1 ((h x).1 (by simp)) with e | e
      · exact e
      · rcases List.mem_cons.1 ((h y).2 (by simp)) with e' | e'
        · exact e'.symm
        · have h1 := hb'.1 x e; have h2 := ha'.1 y e'; omega
    subst e
    rw [rise_ext ha'.2 hb'.2 (fun r => ?_)]
    constructor
    · intro hr
      rcases List.mem_cons.1 ((h r).1 (by simp [hr])) with e | e
      · have := ha'.1 r hr; omega
      · exact e
    · intro hr
      rcases List.mem_cons.1 ((h r).2 (by simp [hr])) with e | e
      · have := hb'.1 r hr; omega
      · exact e
theorem mg_allv {a b : List Nat} (ha : AllV a) (hb : AllV b) : AllV (mg a b) := fun r hr => by
  rcases (mg_mem _ _ _).1 hr with h | h
  · exact ha r h
  · exact hb r h
theorem mg_comm {a b : List Nat} (ha : Rise a) (hb : Rise b) : mg a b = mg b a :=
  rise_ext (mg_rise ha hb) (mg_rise hb ha) (fun r => by rw [mg_mem, mg_mem]; exact Or.comm)
theorem mg_idem {a : List Nat} (ha : Rise a) : mg a a = a := rise_ext (mg_rise ha ha) ha (fun r => by rw [mg_mem]; simp)
theorem mg_assoc {a b c : List Nat} (ha : Rise a) (hb : Rise b) (hc : Rise c) : mg (mg a b) c = mg a (mg b c) :=
  rise_ext (mg_rise (mg_rise ha hb) hc) (mg_rise ha (mg_rise hb hc)) (fun r => by rw [mg_mem, mg_mem, mg_mem, mg_mem]; exact or_assoc)
def Va.jn : Va → Va → Va
  | .flag a, .flag b => .flag (a || b)
  | .real u, .real w => .real (gt u w)
  | .tally c, .tally d => .tally (mxC c d)
  | .runes r, .runes s => .runes (mg r s)
  | .corner u w, .corner u' w' => .corner (gt u u') (gt w w')
  | v, _ => v
theorem gt_idem (u : Nat) : gt u u = u := by unfold gt; split <;> rfl
theorem gt_assoc (u v w : Nat) : gt (gt u v) w = gt u (gt v w) := by
  unfold gt
  by_cases h1 : rk v < rk u
  · by_cases h2 : rk w < rk v
    · rw [if_pos h1, if_pos h2, if_pos h1, if_pos (by omega)]
    · rw [if_pos h1, if_neg h2]
  · by_cases h2 : rk w < rk v
    · rw [if_neg h1, if_pos h2, if_neg h1]
    · rw [if_neg h1, if_neg h2, if_neg (by omega)]
theorem mxC_comm (c d : List Nat) : mxC c d = mxC d c := by
  unfold mxC
  induction c generalizing d with
  | nil => cases d <;> rfl
  | cons x c ih => cases d with
    | nil => rfl
    | cons y d => rw [List.zipWith_cons_cons, List.zipWith_cons_cons, ih d, Nat.max_comm]
theorem mxC_idem (c : List Nat) : mxC c c = c := by
  unfold mxC
  induction c with
  | nil => rfl
  | cons x c ih => rw [List.zipWith_cons_cons, ih, Nat.max_self]
theorem mxC_assoc (c d e : List Nat) : mxC (mxC c d) e = mxC c (mxC d e) := by
  unfold mxC
  induction c generalizing d e with
  | nil => cases d <;> cases e <;> rfl
  | cons x c ih => cases d with
    | nil => cases e <;> rfl
    | cons y d => cases e with
      | nil => rfl
      | cons z e => rw [List.zipWith_cons_cons, List.zipWith_cons_cons, List.zipWith_cons_cons, List.zipWith_cons_cons, ih d e, Nat.max_assoc]
theorem kind_1' {v : Va} (h : v.kind = 1) : ∃ b, v = .flag b := by cases v <;> first | exact ⟨_, rfl⟩ | cases h
theorem kind_2' {v : Va} (h : v.kind = 2) : ∃ b, v = .real b := by cases v <;> first | exact ⟨_, rfl⟩ | cases h
theorem kind_3' {v : Va} (h : v.kind = 3) : ∃ b, v = .tally b := by cases v <;> first | exact ⟨_, rfl⟩ | cases h
theorem kind_4' {v : Va} (h : v.kind = 4) : ∃ b, v = .runes b := by cases v <;> first | exact ⟨_, rfl⟩ | cases h
theorem kind_5' {v : Va} (h : v.kind = 5) : ∃ b c, v = .corner b c := by cases v <;> first | exact ⟨_, _, rfl⟩ | cases h
/-- Two values of a kind. -/
inductive Two : Va → Va → Prop
  | flag (a b : Bool) : Two (.flag a) (.flag b)
  | real (u w : Nat) : Two (.real u) (.real w)
  | tally (c d : List Nat) : Two (.tally c) (.tally d)
  | runes (r s : List Nat) : Two (.runes r) (.runes s)
  | corner (u w u' w' : Nat) : Two (.corner u w) (.corner u' w')
theorem two_of {v w : Va} (h : v.kind = w.kind) : Two v w := by
  cases v <;> cases w <;> first | constructor | (revert h; simp [Va.kind]; done)
theorem Va.jn_kind {v w : Va} (h : v.kind = w.kind) : (v.jn w).kind = v.kind := by
  cases two_of h <;> rfl
theorem Va.jn_comm {v w : Va} (hv : v.ok) (hw : w.ok) (h : v.kind = w.kind) : v.jn w = w.jn v := by
  cases two_of h with
  | flag a b => simp only [Va.jn]; rw [Bool.or_comm]
  | real u w => simp only [Va.jn]; rw [gt_comm hv hw]
  | tally c d => simp only [Va.jn]; rw [mxC_comm]
  | runes r s => simp only [Va.jn]; rw [mg_comm hv.2.1 hw.2.1]
  | corner u w u' w' => simp only [Va.jn]; rw [gt_comm hv.1 hw.1, gt_comm hv.2 hw.2]
theorem Va.jn_idem {v : Va} (hv : v.ok) : v.jn v = v := by
  cases v with
  | flag a => simp only [Va.jn]; rw [Bool.or_self]
  | real u => simp only [Va.jn]; rw [gt_idem]
  | tally c => simp only [Va.jn]; rw [mxC_idem]
  | runes r => simp only [Va.jn]; rw [mg_idem hv.2.1]
  | corner u w => simp only [Va.jn]; rw [gt_idem, gt_idem]
theorem Va.jn_assoc {u v w : Va} (hu : u.ok) (hv : v.ok) (hw : w.ok) (h : u.kind = v.kind) (h' : v.kind = w.kind) : (u.jn v).jn w = u.jn (v.jn w) := by
  cases two_of h with
  | flag a b => obtain ⟨c, rfl⟩ := kind_1' (v := w) h'.symm; simp only [Va.jn]; rw [Bool.or_assoc]
  | real a b => obtain ⟨c, rfl⟩ := kind_2' (v := w) h'.symm; simp only [Va.jn]; rw [gt_assoc]
  | tally a b => obtain ⟨c, rfl⟩ := kind_3' (v := w) h'.symm; simp only [Va.jn]; rw [mxC_assoc]
  | runes a b => obtain ⟨c, rfl⟩ := kind_4' (v := w) h'.symm; simp only [Va.jn]; rw [mg_assoc hu.2.1 hv.2.1 hw.2.1]
  | corner a b a' b' => obtain ⟨c, c', rfl⟩ := kind_5' (v := w) h'.symm; simp only [Va.jn]; rw [gt_assoc, gt_assoc]
theorem Va.jn_ok {v w : Va} (hv : v.ok) (hw : w.ok) (h : v.kind = w.kind) (hl : (v.jn w).bytes.length ≤ 40) : (v.jn w).ok := by
  cases two_of h with
  | flag a b => trivial
  | real a b => exact can_gt hv hw
  | tally a b => exact Ct.mx hv hw
  | runes a b => exact ⟨mg_allv hv.1 hw.1, mg_rise hv.2.1 hw.2.1, by simp only [Va.jn, Va.bytes, List.length_cons] at hl; omega⟩
  | corner a b a' b' => exact ⟨can_gt hv.1 hw.1, can_gt hv.2 hw.2⟩
/-! ### Kind, Join, Below of whatever bytes, plainly. -/
/-- Both are values, of one kind. -/
def Pr (L M : List UInt8) (v w : Va) : Prop := v.ok ∧ w.ok ∧ v.kind = w.kind ∧ L = v.bytes ∧ M = w.bytes
open Classical in
@[irreducible] noncomputable def jnB (L M : List UInt8) : List UInt8 × Int :=
  if h : ∃ p : Va × Va, Pr L M p.1 p.2 then (if ((Classical.choose h).1.jn (Classical.choose h).2).bytes.length ≤ 40 then (((Classical.choose h).1.jn (Classical.choose h).2).bytes, 0) else ([], 82)) else ([], 120)
theorem Pr.inj {L M : List UInt8} {v w v' w' : Va} (h : Pr L M v w) (h' : Pr L M v' w') : v = v' ∧ w = w' :=
  ⟨Va.inj h.1 h'.1 (h.2.2.2.1.symm.trans h'.2.2.2.1), Va.inj h.2.1 h'.2.1 (h.2.2.2.2.symm.trans h'.2.2.2.2)⟩
theorem jnB_va {L M : List UInt8} {v w : Va} (h : Pr L M v w) : jnB L M = if (v.jn w).bytes.length ≤ 40 then ((v.jn w).bytes, 0) else ([], 82) := by
  have h0 : ∃ p : Va × Va, Pr L M p.1 p.2 := ⟨(v, w), h⟩
  have hc : Pr L M (Classical.choose h0).1 (Classical.choose h0).2 := Classical.choose_spec h0
  obtain ⟨e1, e2⟩ := hc.inj h
  unfold jnB
  rw [dif_pos h0, e1, e2]
theorem jnB_no {L M : List UInt8} (h : ∀ v w, ¬ Pr L M v w) : jnB L M = ([], 120) := by
  unfold jnB
  rw [dif_neg (fun ⟨p, hp⟩ => h p.1 p.2 hp)]
inductive Jn (L M : List UInt8) : Prop
  | big (v w : Va) (h : Pr L M v w) (hl : ¬ (v.jn w).bytes.length ≤ 40) (e : jnB L M = ([], 82))
  | val (v w : Va) (h : Pr L M v w) (hl : (v.jn w).bytes.length ≤ 40) (e : jnB L M = ((v.jn w).bytes, 0))
  | no (h : ∀ v w, ¬ Pr L M v w) (e : jnB L M = ([], 120))
theorem jn_cases (L M : List UInt8) : Jn L M := by
  by_cases h : ∃ p : Va × Va, Pr L M p.1 p.2
  · obtain ⟨⟨v, w⟩, h⟩ := h
    have e := jnB_va h
    by_cases hl : (v.jn w).bytes.length ≤ 40
    · rw [if_pos hl] at e; exact .val v w h hl e
    · rw [if_neg hl] at e; exact .big v w h hl e
  · have h' : ∀ v w, ¬ Pr L M v w := fun v w hp => h ⟨(v, w), hp⟩
    exact .no h' (jnB_no h')
open Classical in
@[irreducible] noncomputable def blB (L M : List UInt8) : Bool := decide ((jnB L M).2 = 0 ∧ (jnB L M).1 = M)
theorem blB_iff (L M : List UInt8) : blB L M = true ↔ (jnB L M).2 = 0 ∧ (jnB L M).1 = M := by unfold blB; exact decide_eq_true_iff
theorem blB_va {L M : List UInt8} (h : blB L M = true) : ∃ v w, Pr L M v w ∧ v.jn w = w := by
  rw [blB_iff] at h
  rcases jn_cases L M with ⟨v, w, hp, hl, e⟩ | ⟨v, w, hp, hl, e⟩ | ⟨hp, e⟩
  · rw [e] at h; exact absurd h.1 (by show ¬ ((82 : Int) = 0); decide)
  · rw [e] at h
    exact ⟨v, w, hp, Va.inj (Va.jn_ok hp.1 hp.2.1 hp.2.2.1 hl) hp.2.1 (h.2.trans hp.2.2.2.2)⟩
  · rw [e] at h; exact absurd h.1 (by show ¬ ((120 : Int) = 0); decide)
theorem blB_of {L M : List UInt8} {v w : Va} (h : Pr L M v w) (e : v.jn w = w) : blB L M = true := by
  rw [blB_iff, jnB_va h, e, if_pos (Va.len h.2.1)]
  exact ⟨rfl, h.2.2.2.2.symm⟩
theorem Pr.swap {L M : List UInt8} {v w : Va} (h : Pr L M v w) : Pr M L w v := ⟨h.2.1, h.1, h.2.2.1.symm, h.2.2.2.2, h.2.2.2.1⟩
/-! ### The laws. -/
theorem law_comm (L M : List UInt8) : jnB M L = jnB L M := by
  rcases jn_cases L M with ⟨v, w, hp, hl, e⟩ | ⟨v, w, hp, hl, e⟩ | ⟨hp, e⟩
  · rw [e, jnB_va hp.swap, ← Va.jn_comm hp.1 hp.2.1 hp.2.2.1, if_neg hl]
  · rw [e, jnB_va hp.swap, ← Va.jn_comm hp.1 hp.2.1 hp.2.2.1, if_pos hl]
  · rw [e, jnB_no (fun v w h => hp w v h.swap)]
theorem law_self {L : List UInt8} (h : kd L ≠ 0) : jnB L L = (L, 0) ∧ blB L L = true := by
  by_cases hV : IsVa L
  · obtain ⟨v, hv, e⟩ := hV
    have hp : Pr L L v v := ⟨hv, hv, rfl, e, e⟩
    refine ⟨?_, blB_of hp (Va.jn_idem hv)⟩
    rw [jnB_va hp, Va.jn_idem hv, if_pos (Va.len hv), ← e]
  · exact absurd (kd_no hV) h
theorem law_errs (L M : List UInt8) : (jnB L M).2 = 0 ∨ (jnB L M).2 = 82 ∨ (jnB L M).2 = 120 := by
  rcases jn_cases L M with ⟨v, w, hp, hl, e⟩ | ⟨v, w, hp, hl, e⟩ | ⟨hp, e⟩ <;> rw [e]
  · exact .inr (.inl rfl)
  · exact .inl rfl
  · exact .inr (.inr rfl)
theorem law_120 {L M : List UInt8} (h : (jnB L M).2 ≠ 0) : blB L M = false := by
  cases e : blB L M with
  | false => rfl
  | true => exact absurd ((blB_iff _ _).1 e).1 h
theorem law_anti {L M : List UInt8} (h : blB L M = true) (h' : blB M L = true) : L = M := by
  rw [blB_iff] at h h'
  rw [law_comm L M] at h'
  exact h'.2.symm.trans h.2
theorem law_up {L M : List UInt8} (h : (jnB L M).2 = 0) : kd (jnB L M).1 = kd L ∧ blB L (jnB L M).1 = true ∧ blB M (jnB L M).1 = true := by
  rcases jn_cases L M with ⟨v, w, hp, hl, e⟩ | ⟨v, w, hp, hl, e⟩ | ⟨hp, e⟩
  · rw [e] at h; exact absurd h (by show ¬ ((82 : Int) = 0); decide)
  · have hok := Va.jn_ok hp.1 hp.2.1 hp.2.2.1 hl
    have hk := Va.jn_kind hp.2.2.1
    have e1 : (jnB L M).1 = (v.jn w).bytes := by rw [e]
    refine ⟨by rw [kd_va hok e1, hk, kd_va hp.1 hp.2.2.2.1], ?_, ?_⟩
    · refine blB_of (v := v) (w := v.jn w) ⟨hp.1, hok, hk.symm, hp.2.2.2.1, e1⟩ ?_
      rw [← Va.jn_assoc hp.1 hp.1 hp.2.1 rfl hp.2.2.1, Va.jn_idem hp.1]
    · refine blB_of (v := w) (w := v.jn w) ⟨hp.2.1, hok, hp.2.2.1.symm.trans hk.symm, hp.2.2.2.2, e1⟩ ?_
      rw [Va.jn_comm hp.1 hp.2.1 hp.2.2.1, ← Va.jn_assoc hp.2.1 hp.2.1 hp.1 rfl hp.2.2.1.symm, Va.jn_idem hp.2.1]
  · rw [e] at h; exact absurd h (by show ¬ ((120 : Int) = 0); decide)
theorem val_of {L M : List UInt8} (h : (jnB L M).2 = 0) : ∃ v w, Pr L M v w ∧ (v.jn w).ok ∧ (jnB L M).1 = (v.jn w).bytes := by
  rcases jn_cases L M with ⟨v, w, hp, hl, e⟩ | ⟨v, w, hp, hl, e⟩ | ⟨hp, e⟩
  · rw [e] at h; exact absurd h (by show ¬ ((82 : Int) = 0); decide)
  · exact ⟨v, w, hp, Va.jn_ok hp.1 hp.2.1 hp.2.2.1 hl, by rw [e]⟩
  · rw [e] at h; exact absurd h (by show ¬ ((120 : Int) = 0); decide)
theorem law_lub {L M N : List UInt8} (h : (jnB L M).2 = 0) (h1 : blB L N = true) (h2 : blB M N = true) : blB (jnB L M).1 N = true := by
  obtain ⟨v, w, hp, hok, e⟩ := val_of h
  obtain ⟨v', z, hp1, e1⟩ := blB_va h1
  obtain ⟨w', z', hp2, e2⟩ := blB_va h2
  obtain rfl := Va.inj hp.1 hp1.1 (hp.2.2.2.1.symm.trans hp1.2.2.2.1)
  obtain rfl := Va.inj hp.2.1 hp2.1 (hp.2.2.2.2.symm.trans hp2.2.2.2.1)
  obtain rfl := Va.inj hp1.2.1 hp2.2.1 (hp1.2.2.2.2.symm.trans hp2.2.2.2.2)
  refine blB_of ⟨hok, hp1.2.1, (Va.jn_kind hp.2.2.1).trans hp1.2.2.1, e, hp1.2.2.2.2⟩ ?_
  rw [Va.jn_assoc hp.1 hp.2.1 hp1.2.1 hp.2.2.1 hp2.2.2.1, e2, e1]
theorem law_assoc {L M N : List UInt8} (h1 : (jnB L M).2 = 0) (h2 : (jnB M N).2 = 0) (h3 : (jnB (jnB L M).1 N).2 = 0) (h4 : (jnB L (jnB M N).1).2 = 0) : (jnB L (jnB M N).1).1 = (jnB (jnB L M).1 N).1 := by
  obtain ⟨v, w, hp, hok, e⟩ := val_of h1
  obtain ⟨w', z, hp2, hok2, e2⟩ := val_of h2
  obtain rfl := Va.inj hp.2.1 hp2.1 (hp.2.2.2.2.symm.trans hp2.2.2.2.1)
  obtain ⟨a, b, hp3, _, e3⟩ := val_of h3
  obtain ⟨c, d, hp4, _, e4⟩ := val_of h4
  obtain rfl := Va.inj hok hp3.1 (e.symm.trans hp3.2.2.2.1)
  obtain rfl := Va.inj hp2.2.1 hp3.2.1 (hp2.2.2.2.2.symm.trans hp3.2.2.2.2)
  obtain rfl := Va.inj hp.1 hp4.1 (hp.2.2.2.1.symm.trans hp4.2.2.2.1)
  obtain rfl := Va.inj hok2 hp4.2.1 (e2.symm.trans hp4.2.2.2.2)
  rw [e3, e4, Va.jn_assoc hp.1 hp.2.1 hp2.2.1 hp.2.2.1 hp2.2.2.1]
end Go.Proofs.YtimddbgnaeeggaaDoor.KD
namespace Go.Proofs.YtimddbgnaeeggaaDoor.KD
open Go.Eng Go.Shelf Go.Lib
set_option maxRecDepth 100000
/-- The numbers of the tables' types and variables, by the shelf's own. -/
def rho8 : Ren := ⟨fun x => x, fun x => match x with
  | 5 => 5
  | 119 => 165
  | 138 => 167
  | 139 => 168
  | _ => 0, fun x => match x with
  | 3 => 1
  | 4 => 2
  | _ => 0⟩
theorem types8 : U8Types Tryd.prog rho8 := ⟨by kernel_rfl, by kernel_rfl, by kernel_rfl, by kernel_rfl⟩
theorem extra8 : U8Extra Tryd.prog rho8 := ⟨by kernel_rfl, by kernel_rfl, by kernel_rfl, by kernel_rfl, by kernel_rfl, by kernel_rfl, by kernel_rfl⟩
theorem tabs_of {W : World} (hL : laidMetH Tryd.prog Rows.kindsLatticeRow.laid W) : Tabs (roOf W) := by
  have h : laidMet Tryd.prog Rows.kindsLatticeRow.laid W := hL
  have hT : Utf8Tabs 1 2 W := utf8Tabs_of_readsT types8 extra8 (laidMet.reads h (.tail _ (.head _))) (laidMet.reads h (.head _))
  exact ⟨fun c hc => ⟨trivial, hT.1 c hc⟩, fun i hi => ⟨trivial, (hT.2 i hi).1⟩, fun i hi => ⟨trivial, (hT.2 i hi).2⟩⟩
end Go.Proofs.YtimddbgnaeeggaaDoor.KD
namespace Go.Proofs.YtimddbgnaeeggaaDoor.KD
open Go.Eng
set_option maxRecDepth 100000
theorem mg_len : ∀ a b : List Nat, (flat (mg a b)).length ≤ (flat a).length + (flat b).length
  | [], b => by rw [mg_nil]; omega
  | x :: a, [] => by rw [mg_nil2]; omega
  | x :: a, y :: b => by
    have hx := flat_clen x a
    have hy := flat_clen y b
    rcases Nat.lt_trichotomy x y with h | h | h
    · rw [mg_lt a b h, flat_clen]; have := mg_len a (y :: b); omega
    · subst h; rw [mg_eq, flat_clen]; have := mg_len a b; omega
    · rw [mg_gt a b h, flat_clen]; have := mg_len (x :: a) b; omega
termination_by a b => a.length + b.length
theorem Va.kind_ne (w : Va) : w.kind.toNat ≠ 0 := by
  cases w with
  | flag b => exact (by decide : (1 : UInt8).toNat ≠ 0)
  | real b => exact (by decide : (2 : UInt8).toNat ≠ 0)
  | tally b => exact (by decide : (3 : UInt8).toNat ≠ 0)
  | runes b => exact (by decide : (4 : UInt8).toNat ≠ 0)
  | corner b c => exact (by decide : (5 : UInt8).toNat ≠ 0)
section
variable {ro : Addr → A → Prop}
set_option maxHeartbeats 1000000 in
theorem both_flag (a b : Bool) {K : V → Hp → Prop} (hK : K (.a (.str (bs (Va.flag (a || b)).bytes))) []) :
    Go.Eng.Fn Tryd.prog ro 47 [.a (.str (bs (Va.flag a).bytes)), .a (.str (bs (Va.flag b).bytes))] [] K := by
  have g0 : byteAt (bs (Va.flag a).bytes) 0 = some 1 := byteAt_bs (i := 0) rfl
  have g1 := True.intro
  refine Fn.weak ?_
  refine Fn.of_code h47 Tryd.func47 rfl (Nat.le_of_ble_eq_true rfl) ?_
  have hm : (!Op.bytesLess (bs (Va.flag a).bytes).data.toList (bs (Va.flag b).bytes).data.toList) = (a || !b) := by
    cases a <;> cases b <;> rfl
  obtain ⟨x, hx⟩ : ∃ x, x = bs (Va.flag a).bytes := ⟨_, rfl⟩
  obtain ⟨y, hy⟩ : ∃ y, y = bs (Va.flag b).bytes := ⟨_, rfl⟩
  rw [← hx] at g0 hm ⊢
  rw [← hy] at hm ⊢
  cases hab : (a || !b) with
  | true =>
    rw [hab] at hm
    have e : bs (Va.flag (a || b)).bytes = x := by rw [hx]; revert hab; cases a <;> cases b <;> first | (intro _; rfl) | (intro h; cases h)
    rw [e] at hK
    conv => whnf
    repeat' ((first | (with_reducible refine y'b ‹_› ?_) | ((with_reducible apply y'o); (· first | exact g0 | exact g1)) | fail) <;> (conv => whnf))
    exact keepOf (v₀ := .a (.str x)) [] [] rfl trivial rfl hK
  | false =>
    rw [hab] at hm
    have e : bs (Va.flag (a || b)).bytes = y := by rw [hy]; revert hab; cases a <;> cases b <;> first | (intro _; rfl) | (intro h; cases h)
    rw [e] at hK
    conv => whnf
    repeat' ((first | (with_reducible refine y'b ‹_› ?_) | ((with_reducible apply y'o); (· first | exact g0 | exact g1)) | fail) <;> (conv => whnf))
    exact keepOf (v₀ := .a (.str y)) [] [] rfl trivial rfl hK
set_option maxHeartbeats 1000000 in
theorem both_runes (hT : Tabs ro) (r s : List Nat) (hr : AllV r) (hs : AllV s) (hlr : (flat r).length ≤ 100) (hls : (flat s).length ≤ 100) {K : V → Hp → Prop} (hK : K (.a (.str (bs (4 :: flat (mg r s))))) []) :
    Go.Eng.Fn Tryd.prog ro 47 [.a (.str (bs (4 :: flat r))), .a (.str (bs (4 :: flat s)))] [] K := by
  have g0 : byteAt (bs (4 :: flat r)) 0 = some 4 := byteAt_bs (i := 0) rfl
  have g1 := True.intro
  have k := @union1 ro hT r s hr hs (by omega)
  have hx1 := bs_tail 4 (flat r)
  have hy1 := bs_tail 4 (flat s)
  have hx0 := bs_head 4 (flat r)
  have hxs : (bs (4 :: flat r)).size = (flat r).length + 1 := by rw [bs_size]; rfl
  have hys : (bs (4 :: flat s)).size = (flat s).length + 1 := by rw [bs_size]; rfl
  have c0 : decide ((0 : Int) ≤ 1 ∧ (1 : Int) ≤ ((bs (4 :: flat r)).size : Int)) = true := decide_eq_true (by omega)
  have c1 : decide ((0 : Int) ≤ 1 ∧ (1 : Int) ≤ ((bs (4 :: flat s)).size : Int)) = true := decide_eq_true (by omega)
  have hml := mg_len r s
  have hend : bs [4] ++ bs (flat (mg r s)) = bs (4 :: flat (mg r s)) := by rw [bs_append]; rfl
  have h4s : (bs [4]).size = 1 := rfl
  have hus : (bs (flat (mg r s))).size = (flat (mg r s)).length := bs_size _
  rw [← hend] at hK
  generalize bs (4 :: flat r) = x at *
  generalize bs (4 :: flat s) = y at *
  generalize bs (flat (mg r s)) = u at *
  generalize bs (flat r) = fr at *
  generalize bs (flat s) = fs at *
  generalize bs [4] = four at *
  refine Fn.weak ?_
  refine Fn.of_code h47 Tryd.func47 rfl (Nat.le_of_ble_eq_true rfl) ?_
  conv => whnf
  repeat' ((first | rw [hx0] | rw [hx1] | rw [hy1] | ((with_reducible refine y'r ?_ ?_); (· decide +kernel)) | ((with_reducible refine y'g ?_ ?_); (· exact ⟨_, rfl⟩)) | (with_reducible refine y'b ‹_› ?_) | ((with_reducible refine y'n ?_ ?_); (· first | with_reducible assumption | exact decide_eq_true (by omega) | decide +kernel)) | ((with_reducible apply y'o); (· first | exact g0 | exact g1)) | (refine Fn.frame [] (by rfl) (by exact trivial) (by rfl) (k ?_)) | fail) <;> (conv => whnf))
  exact keepOf (v₀ := .a (.str (four ++ u))) [] [] rfl trivial rfl hK
/-- both: of two values of a kind. -/
theorem bothV (hT : Tabs ro) (v w : Va) (hv : v.ok) (hw : w.ok) (h : v.kind = w.kind) {K : V → Hp → Prop} (hK : K (.a (.str (bs (v.jn w).bytes))) []) :
    Go.Eng.Fn Tryd.prog ro 47 [.a (.str (bs v.bytes)), .a (.str (bs w.bytes))] [] K := by
  cases two_of h with
  | flag a b => exact both_flag a b hK
  | real a b => exact both_real a b hv hw hK
  | tally a b => exact bothT a b hv hw hK
  | runes a b => exact both_runes hT a b hv.1 hw.1 (by have := hv.2.2; omega) (by have := hw.2.2; omega) hK
  | corner a b a' b' => exact both_corner a b a' b' hv.1 hv.2 hw.1 hw.2 hK
theorem jn_len {v w : Va} (hv : v.ok) (hw : w.ok) (h : v.kind = w.kind) : (v.jn w).bytes.length ≤ 1000 := by
  cases two_of h with
  | flag a b => simp [Va.jn, Va.bytes]
  | real a b => simp [Va.jn, Va.bytes, be_length]
  | tally a b => have := enc_le (mxC a b); simp only [Va.jn, Va.bytes, List.length_cons]; omega
  | runes a b => have := mg_len a b; have := hv.2.2; have := hw.2.2; simp only [Va.jn, Va.bytes, List.length_cons]; omega
  | corner a b a' b' => simp [Va.jn, Va.bytes, be_length]
set_option maxHeartbeats 2000000 in
theorem joinB (hT : Tabs ro) (L M : List UInt8) {K : V → Hp → Prop} (hK : K (.t [.a (.str (bs (jnB L M).1)), .a (.int .i64 (jnB L M).2)]) []) :
    Go.Eng.Fn Tryd.prog ro 17 [.a (.str (bs L)), .a (.str (bs M))] [] K := by
  have g0 := True.intro
  have g1 := True.intro
  have kL := @kindB ro L
  have kM := @kindB ro M
  have kB : ∀ v w, Pr L M v w → ∀ K, K (.a (.str (bs (v.jn w).bytes))) [] → Go.Eng.Fn Tryd.prog ro 47 [.a (.str (bs L)), .a (.str (bs M))] [] K := fun v w h K hK => by
    rw [h.2.2.2.1, h.2.2.2.2]; exact bothV hT v w h.1 h.2.1 h.2.2.1 hK
  have hz : ∀ n : Nat, n ≠ 0 → (((n : Nat) : Int) == 0) = false := fun n h => by simp; omega
  have hc := jn_cases L M
  refine Fn.weak ?_
  refine Fn.of_code (gOf []) Tryd.func17 rfl (Nat.le_of_ble_eq_true rfl) ?_
  have kp : ∀ v w, Pr L M v w → kd L = kd M ∧ kd L ≠ 0 := fun v w h => by
    rw [kd_va h.1 h.2.2.2.1, kd_va h.2.1 h.2.2.2.2, h.2.2.1]
    exact ⟨rfl, w.kind_ne⟩
  have kn : (∀ v w, ¬ Pr L M v w) → kd L = 0 ∨ kd L ≠ kd M := fun h => by
    by_cases hV : IsVa L
    · by_cases hW : IsVa M
      · obtain ⟨v, hv, e⟩ := hV
        obtain ⟨w, hw, e'⟩ := hW
        refine .inr (fun hk => h v w ⟨hv, hw, ?_, e, e'⟩)
        rw [kd_va hv e, kd_va hw e'] at hk
        exact UInt8.toNat_inj.1 hk
      · by_cases h0 : kd L = 0
        · exact .inl h0
        · exact .inr (by rw [kd_no hW]; exact h0)
    · exact .inl (kd_no hV)
  obtain ⟨x, hx⟩ : ∃ x, x = bs L := ⟨_, rfl⟩
  obtain ⟨y, hy⟩ : ∃ y, y = bs M := ⟨_, rfl⟩
  rw [← hx] at kL kB ⊢
  rw [← hy] at kM kB ⊢
  obtain ⟨kl, hkl⟩ : ∃ k, k = kd L := ⟨_, rfl⟩
  obtain ⟨km, hkm⟩ : ∃ k, k = kd M := ⟨_, rfl⟩
  rw [← hkl] at kL kp kn
  rw [← hkm] at kM kp kn
  rcases hc with ⟨v, w, hp, hl, e⟩ | ⟨v, w, hp, hl, e⟩ | ⟨hp, e⟩
  · rw [e] at hK
    obtain ⟨h1, h2⟩ := kp v w hp
    have c0 := hz kl h2
    have c1 : ((kl : Int) != (km : Int)) = false := by rw [h1]; simp
    have k3 := kB v w hp
    have hsz : (bs (v.jn w).bytes).size = (v.jn w).bytes.length := bs_size _
    have c2 : decide (((bs (v.jn w).bytes).size : Int) > 40) = true := decide_eq_true (by omega)
    generalize bs (v.jn w).bytes = u at *
    conv => whnf
    skip
    refine Fn.frame [] (by rfl) (by exact trivial) (by rfl) (kL ?_)
    conv => whnf
    repeat' ((first | (with_reducible refine y'b ‹_› ?_) | fail) <;> (conv => whnf))
    refine Fn.frame [] (by rfl) (by exact trivial) (by rfl) (kM ?_)
    conv => whnf
    repeat' ((first | (with_reducible refine y'b ‹_› ?_) | fail) <;> (conv => whnf))
    refine Fn.frame [] (by rfl) (by exact trivial) (by rfl) (k3 _ ?_)
    conv => whnf
    repeat' ((first | (with_reducible refine y'b ‹_› ?_) | fail) <;> (conv => whnf))
    exact keepOf (v₀ := .t [.a (.str (bs [])), .a (.int .i64 82)]) [] [] rfl trivial rfl hK
  · rw [e] at hK
    obtain ⟨h1, h2⟩ := kp v w hp
    have c0 := hz kl h2
    have c1 : ((kl : Int) != (km : Int)) = false := by rw [h1]; simp
    have k3 := kB v w hp
    have hsz : (bs (v.jn w).bytes).size = (v.jn w).bytes.length := bs_size _
    have c2 : decide (((bs (v.jn w).bytes).size : Int) > 40) = false := decide_eq_false (by omega)
    generalize bs (v.jn w).bytes = u at *
    conv => whnf
    skip
    refine Fn.frame [] (by rfl) (by exact trivial) (by rfl) (kL ?_)
    conv => whnf
    repeat' ((first | (with_reducible refine y'b ‹_› ?_) | fail) <;> (conv => whnf))
    refine Fn.frame [] (by rfl) (by exact trivial) (by rfl) (kM ?_)
    conv => whnf
    repeat' ((first | (with_reducible refine y'b ‹_› ?_) | fail) <;> (conv => whnf))
    refine Fn.frame [] (by rfl) (by exact trivial) (by rfl) (k3 _ ?_)
    conv => whnf
    repeat' ((first | (with_reducible refine y'b ‹_› ?_) | fail) <;> (conv => whnf))
    exact keepOf (v₀ := .t [.a (.str u), .a (.int .i64 0)]) [] [] rfl trivial rfl hK
  · rw [e] at hK
    rcases Nat.eq_zero_or_pos kl with h0 | h0
    · have c0 : ((kl : Int) == 0) = true := by rw [h0]; rfl
      conv => whnf
      skip
      refine Fn.frame [] (by rfl) (by exact trivial) (by rfl) (kL ?_)
      conv => whnf
      repeat' ((first | (with_reducible refine y'b ‹_› ?_) | fail) <;> (conv => whnf))
      exact keepOf (v₀ := .t [.a (.str (bs [])), .a (.int .i64 120)]) [] [] rfl trivial rfl hK
    · have c0 := hz kl (by omega)
      have c1 : ((kl : Int) != (km : Int)) = true := by
        rcases kn hp with h | h
        · omega
        · simp; omega
      conv => whnf
      skip
      refine Fn.frame [] (by rfl) (by exact trivial) (by rfl) (kL ?_)
      conv => whnf
      repeat' ((first | (with_reducible refine y'b ‹_› ?_) | fail) <;> (conv => whnf))
      refine Fn.frame [] (by rfl) (by exact trivial) (by rfl) (kM ?_)
      conv => whnf
      repeat' ((first | (with_reducible refine y'b ‹_› ?_) | fail) <;> (conv => whnf))
      exact keepOf (v₀ := .t [.a (.str (bs [])), .a (.int .i64 120)]) [] [] rfl trivial rfl hK
set_option maxHeartbeats 1000000 in
theorem belowB (hT : Tabs ro) (L M : List UInt8) {K : V → Hp → Prop} (hK : K (.a (.bool (blB L M))) []) :
    Go.Eng.Fn Tryd.prog ro 13 [.a (.str (bs L)), .a (.str (bs M))] [] K := by
  have g0 := True.intro
  have g1 := True.intro
  have kJ := @joinB ro hT L M
  have hb := blB_iff L M
  have hz := law_errs L M
  obtain ⟨b, hbb⟩ : ∃ b, b = blB L M := ⟨_, rfl⟩
  obtain ⟨⟨u, e⟩, hue⟩ : ∃ p, p = jnB L M := ⟨_, rfl⟩
  rw [← hbb] at hK hb
  rw [← hue] at kJ hb hz
  refine Fn.weak ?_
  refine Fn.of_code (gOf []) Tryd.func13 rfl (Nat.le_of_ble_eq_true rfl) ?_
  have c1 : e = 0 → ((bs u).data.toList == (bs M).data.toList) = b := fun h => by
    rw [beqL]
    cases b with
    | true => exact decide_eq_true ((hb.1 rfl).2)
    | false => exact decide_eq_false (fun h' => by have := hb.2 ⟨h, h'⟩; cases this)
  generalize bs L = x at *
  generalize bs M = y at *
  generalize bs u = z at *
  by_cases h : e = 0
  · have c2 := c1 h
    have c0 : (e == 0) = true := by simp [h]
    conv => whnf
    skip
    refine Fn.frame [] (by rfl) (by exact trivial) (by rfl) (kJ ?_)
    conv => whnf
    repeat' ((first | (with_reducible refine y'b ‹_› ?_) | fail) <;> (conv => whnf))
    exact keepOf (v₀ := .a (.bool b)) [] [] (congrArg (fun b => V.a (.bool b)) c2) trivial rfl hK
  · have c0 : (e == 0) = false := by simp [h]
    have hbf : b = false := by
      cases b with
      | true => exact absurd (hb.1 rfl).1 h
      | false => rfl
    subst hbf
    conv => whnf
    skip
    refine Fn.frame [] (by rfl) (by exact trivial) (by rfl) (kJ ?_)
    conv => whnf
    repeat' ((first | (with_reducible refine y'b ‹_› ?_) | fail) <;> (conv => whnf))
    exact keepOf (v₀ := .a (.bool false)) [] [] rfl trivial rfl hK
end
end Go.Proofs.YtimddbgnaeeggaaDoor.KD
namespace Go.Proofs.YtimddbgnaeeggaaDoor.KD
open Go.Eng
set_option maxRecDepth 100000
/-! ### A rune into a rising row. -/
def insR : List Nat → Nat → List Nat
  | [], r => [r]
  | x :: O, r => if x < r then x :: insR O r else if x = r then x :: O else r :: x :: O
def atR : List Nat → Nat → Nat
  | [], _ => 0
  | x :: O, r => if x < r then atR O r + 1 else 0
theorem atR_le (O : List Nat) (r : Nat) : atR O r ≤ O.length := by
  induction O with
  | nil => exact Nat.le_refl 0
  | cons x O ih =>
    unfold atR
    split
    · rw [List.length_cons]; omega
    · exact Nat.zero_le _
theorem atR_at {O : List Nat} {r i x : Nat} (hi : i ≤ atR O r) (hx : O[i]? = some x) : x < r ↔ i < atR O r := by
  induction O generalizing i with
  | nil => simp at hx
  | cons y O ih =>
    unfold atR at hi ⊢
    by_cases h : y < r
    · rw [if_pos h] at hi ⊢
      cases i with
      | zero => simp at hx; subst hx; simp [h]
      | succ i => rw [List.getElem?_cons_succ] at hx; rw [ih (by omega) hx]; omega
    · rw [if_neg h] at hi ⊢
      obtain rfl : i = 0 := by omega
      simp at hx; subst hx
      constructor
      · intro h'; exact absurd h' h
      · intro h'; exact absurd h' (Nat.lt_irrefl 0)
theorem insR_eq (O : List Nat) (r : Nat) : insR O r = if O[atR O r]? = some r then O else O.take (atR O r) ++ [r] ++ O.drop (atR O r) := by
  induction O with
  | nil => rfl
  | cons x O ih =>
    unfold insR atR
    by_cases h : x < r
    · rw [if_pos h, if_pos h, ih, List.getElem?_cons_succ, List.take_succ_cons, List.drop_succ_cons]
      split <;> rfl
    · rw [if_neg h, if_neg h, List.getElem?_cons_zero]
      by_cases h2 : x = r
      · rw [if_pos h2, if_pos (by rw [h2])]
      · rw [if_neg h2, if_neg (by simpa using h2)]; rfl
theorem insR_mem (O : List Nat) (r y : Nat) : y ∈ insR O r ↔ y ∈ O ∨ y = r := by
  induction O with
  | nil => simp [insR]
  | cons x O ih =>
    unfold insR
    by_cases h1 : x < r
    · rw [if_pos h1, List.mem_cons, ih, List.mem_cons, or_assoc]
    · rw [if_neg h1]
      by_cases h2 : x = r
      · rw [if_pos h2, ← h2]
        constructor
        · exact .inl
        · rintro (h | h)
          · exact h
          · simp [h]
      · rw [if_neg h2, List.mem_cons]; exact Or.comm
theorem insR_rise {O : List Nat} (h : Rise O) (r : Nat) : Rise (insR O r) := by
  induction O with
  | nil => exact List.pairwise_singleton _ _
  | cons x O ih =>
    have h' := List.pairwise_cons.1 h
    unfold insR
    by_cases h1 : x < r
    · rw [if_pos h1]
      refine List.pairwise_cons.2 ⟨fun y hy => ?_, ih h'.2⟩
      rcases (insR_mem O r y).1 hy with hy | hy
      · exact h'.1 y hy
      · omega
    · rw [if_neg h1]
      by_cases h2 : x = r
      · rw [if_pos h2]; exact h
      · rw [if_neg h2]
        refine List.pairwise_cons.2 ⟨fun y hy => ?_, h⟩
        rcases List.mem_cons.1 hy with rfl | hy
        · omega
        · have := h'.1 y hy; omega
def insL (L : List Nat) : List Nat := L.foldl insR []
theorem insL_snoc (L : List Nat) (r : Nat) : insL (L ++ [r]) = insR (insL L) r := by unfold insL; rw [List.foldl_append]; rfl
theorem insL_ok (L : List Nat) : Rise (insL L) ∧ ∀ y, y ∈ insL L ↔ y ∈ L := by
  have key : ∀ (L O : List Nat), Rise O → Rise (L.foldl insR O) ∧ ∀ y, y ∈ L.foldl insR O ↔ y ∈ O ∨ y ∈ L := by
    intro L
    induction L with
    | nil => exact fun O h => ⟨h, fun y => by simp⟩
    | cons r L ih =>
      intro O h
      obtain ⟨h1, h2⟩ := ih (insR O r) (insR_rise h r)
      refine ⟨h1, fun y => ?_⟩
      rw [List.foldl_cons, h2, insR_mem, List.mem_cons, or_assoc]
  obtain ⟨h1, h2⟩ := key L [] List.Pairwise.nil
  exact ⟨h1, fun y => by unfold insL; rw [h2]; simp⟩
theorem insL_len (L : List Nat) : (insL L).length ≤ L.length := by
  have key : ∀ (L O : List Nat), (L.foldl insR O).length ≤ O.length + L.length := by
    intro L
    induction L with
    | nil => exact fun O => Nat.le_refl _
    | cons r L ih =>
      intro O
      have h1 := ih (insR O r)
      have h2 : (insR O r).length ≤ O.length + 1 := by
        clear h1 ih
        induction O with
        | nil => exact Nat.le_refl 1
        | cons x O ih =>
          unfold insR
          split
          · simp only [List.length_cons]; omega
          · split <;> simp only [List.length_cons] <;> omega
      rw [List.foldl_cons, List.length_cons]; omega
  have := key L []
  unfold insL
  simpa using this
theorem insL_mg {A B : List Nat} (hA : Rise A) (hB : Rise B) : insL (A ++ B) = mg A B :=
  rise_ext (insL_ok _).1 (mg_rise hA hB) (fun y => by rw [(insL_ok _).2, mg_mem, List.mem_append])
/-! ### Rows of runes behind rows. -/
theorem i32_ins {cs new : List A} {L M y : List Nat} {n S : Nat} (hcs : cs = i32s (L ++ y)) (hnew : new = i32s M) (hn : n = L.length) (hS : S = 1) (hy : M.length ≤ y.length) :
    storeL cs (0 + n * S) new = i32s (L ++ M ++ y.drop M.length) := by
  subst hcs hnew hn hS
  rw [Nat.zero_add, Nat.mul_one, storeL_row _ _ _ (by rw [i32s_len, i32s_len, List.length_append]; omega), i32s_len]
  unfold i32s
  rw [← List.map_take, ← List.map_drop, ← List.map_append, ← List.map_append, List.take_left' rfl]
  congr 2
  rw [List.drop_append]
  simp
theorem i32_cat {cs new : List A} {L M y : List Nat} {n S c k : Nat} {z : A} (hcs : cs = i32s (L ++ y)) (hnew : new = i32s M) (hn : n = L.length) (hS : S = 1) (hz : z = .int .i32 0) :
    List.drop 0 (List.take (0 + n * S) cs) ++ new ++ repl [z] ((c - k) * S) = i32s (L ++ M ++ List.replicate (c - k) 0) := by
  subst hcs hnew hn hS hz
  rw [Nat.zero_add, Nat.mul_one, Nat.mul_one, List.drop_zero]
  unfold i32s
  rw [← List.map_take, List.take_left' rfl, List.map_append, List.map_append]
  simp [repl]
theorem i32_sub {cs : List A} {L y : List Nat} {n o S : Nat} (hcs : cs = i32s (L ++ y)) (hn : o + n ≤ L.length) (hS : S = 1) : List.drop o (List.take (o + n * S) cs) = i32s ((L.drop o).take n) := by
  subst hcs hS
  rw [Nat.mul_one]
  unfold i32s
  rw [← List.map_take, ← List.map_drop, List.take_append_of_le_length hn, List.drop_take, Nat.add_sub_cancel_left]
theorem rise_len : ∀ {L : List Nat} {b N : Nat}, Rise L → (∀ r ∈ L, b ≤ r ∧ r < N) → L.length ≤ N - b
  | [], b, N, _, _ => Nat.zero_le _
  | x :: L, b, N, h, hb => by
    have h' := List.pairwise_cons.1 h
    have hx := hb x (by simp)
    have := rise_len (b := x + 1) (N := N) h'.2 (fun r hr => ⟨h'.1 r hr, (hb r (by simp [hr])).2⟩)
    rw [List.length_cons]; omega
theorem insL_few {L : List Nat} {N : Nat} (h : ∀ r ∈ L, r < N) : (insL L).length ≤ N := by
  have := rise_len (b := 0) (N := N) (insL_ok L).1 (fun r hr => ⟨Nat.zero_le _, h r (((insL_ok L).2 r).1 hr)⟩)
  omega
end Go.Proofs.YtimddbgnaeeggaaDoor.KD
namespace Go.Proofs.YtimddbgnaeeggaaDoor.KD
open Go.Eng
set_option maxRecDepth 100000
section
variable {ro : Addr → A → Prop}
set_option maxHeartbeats 4000000 in
theorem rising1 (L X : List Nat) (rs : List A) (n cap : Nat) (mk : Bool) (hrs : rs = i32s (L ++ X)) (hn : n = L.length) (hn9 : n ≤ 70368744177664) (hL : ∀ r ∈ L, r < 1114112) {K : V → Hp → Prop}
    (hK : ∀ os Y m c mk', os = i32s (insL L ++ Y) → m = (insL L).length → c = m + Y.length → K (.a (.slc 1 0 m c)) [.cells rs 21 mk, .cells os 21 mk']) :
    Go.Eng.Fn Tryd.prog ro 67 [.a (.slc 0 0 n cap)] [.cells rs 21 mk] K := by
  have hp := i32s_pl hrs
  refine Fn.weak ?_
  refine Fn.of 1 (cutAt [10, 11, 12] h67) rfl Tryd.func67 rfl (Nat.le_of_ble_eq_true rfl) ?_
  conv => whnf
  skip
  refine loopx_of (fun k F H => ∃ (i m c : Nat) (bk : Bool) (Y : List Nat) (os : List A), i ≤ n ∧ k = n - i ∧ os = i32s (insL (L.take i) ++ Y) ∧ m = (insL (L.take i)).length ∧ c = m + Y.length ∧ F = [(0, .a (.slc 0 0 n cap)), (3, .a (.slc 1 0 m c)), (4, .a (.int .i64 i))] ∧ H = [.cells rs 21 mk, .cells os 21 bk]) n ?_ ?_
  · refine Into.ghost 1 [(0, .a (.slc 0 0 n cap)), (3, .a (.slc 1 0 0 0)), (4, .a (.int .i64 (0 : Nat)))] [.cells rs 21 mk, .cells [] 21 false] rfl ⟨rfl, rfl, rfl, trivial⟩ ⟨ung_pl hp.1 _ _ _, rfl, trivial⟩ (by simp [Ob.okb, frmOk, V.okb, A.okb, hp.2] <;> decide) ?_
    exact Into.weak [0, 1] _ [.cells rs 21 mk, .cells [] 21 false] ⟨0, 0, 0, false, [], [], Nat.zero_le _, rfl, i32s_nil.symm, rfl, rfl, rfl, rfl⟩ ⟨rfl, rfl, rfl, trivial⟩ ⟨ren_pl hp _ _ _, rfl, trivial⟩ (by simp [nodupb, baseb, Ob.okb, frmOk, V.okb, A.okb, hp.2] <;> decide)
  · rintro k F H ⟨i, m, c, bk, Y, os, hi, rfl, hos, hm, hc, rfl, rfl⟩
    have hq := i32s_pl hos
    have hol : os.length = c := by rw [hos, i32s_len, List.length_append, hc, hm]
    have hmf : m ≤ 1114112 := by rw [hm]; exact insL_few (fun r hr => hL r (List.mem_of_mem_take hr))
    by_cases hin : i < n
    · have d1 : decide ((i : Int) < (n : Int)) = true := decide_eq_true (by omega)
      obtain ⟨r, hr⟩ : ∃ r, L[i]? = some r := ⟨_, List.getElem?_eq_getElem (by omega)⟩
      have hts : insL (L.take (i + 1)) = insR (insL (L.take i)) r := by rw [List.take_add_one, hr]; exact insL_snoc _ _
      generalize insL (L.take i) = O at *
      obtain ⟨at_, hat⟩ : ∃ a, a = atR O r := ⟨_, rfl⟩
      have hal := atR_le O r
      rw [← hat, ← hm] at hal
      have g0 : rs[0 + (i : Int).toNat * Tryd.prog.types[21].size]? = some (.int .i32 (r : Int)) := by
        rw [Int.toNat_natCast, s21, Nat.zero_add, Nat.mul_one]
        exact i32s_get hrs (by rw [List.getElem?_append_left (by omega)]; exact hr)
      have d2 : decide (0 ≤ (i : Int) ∧ (i : Int) < (n : Int)) = true := decide_eq_true (by omega)
      have g1 := True.intro
      conv => whnf
      repeat' ((first | (with_reducible refine y'b ‹_› ?_) | fail) <;> (conv => whnf))
      refine loopx_of (fun q F H => ∃ a : Nat, a ≤ at_ ∧ q = at_ - a ∧ F = [(0, .a (.slc 0 0 n cap)), (3, .a (.slc 1 0 m c)), (4, .a (.int .i64 i)), (5, .a (.int .i64 a))] ∧ H = [.cells rs 21 mk, .cells os 21 bk]) at_ ?_ ?_
      · exact Into.weak [0, 1] [(0, .a (.slc 0 0 n cap)), (3, .a (.slc 1 0 m c)), (4, .a (.int .i64 i)), (5, .a (.int .i64 (0 : Nat)))] [.cells rs 21 mk, .cells os 21 bk] ⟨0, Nat.zero_le _, rfl, rfl, rfl⟩ ⟨rfl, rfl, rfl, rfl, trivial⟩ ⟨ren_pl hp _ _ _, ren_pl hq _ _ _, trivial⟩ (by simp [nodupb, baseb, Ob.okb, frmOk, V.okb, A.okb, hp.2, hq.2] <;> decide)
      · rintro q F H ⟨a, ha, rfl, rfl, rfl⟩
        have hwa : IntKind.i64.wrap (↑a + 1) = ((a + 1 : Nat) : Int) := by rw [i64w (by omega) (by omega)]; rfl
        have hwi : IntKind.i64.wrap (↑i + 1) = ((i + 1 : Nat) : Int) := by rw [i64w (by omega) (by omega)]; rfl
        by_cases hlt : a < at_
        · have d3 : decide ((a : Int) < (m : Int)) = true := decide_eq_true (by omega)
          have d4 : decide (0 ≤ (a : Int) ∧ (a : Int) < (m : Int)) = true := decide_eq_true (by omega)
          obtain ⟨x, hx⟩ : ∃ x, O[a]? = some x := ⟨_, List.getElem?_eq_getElem (by omega)⟩
          have hxr := atR_at (r := r) (by rw [← hat]; exact ha) hx
          rw [← hat] at hxr
          clear g1
          have g1 : os[0 + (a : Int).toNat * Tryd.prog.types[21].size]? = some (.int .i32 (x : Int)) := by
            rw [Int.toNat_natCast, s21, Nat.zero_add, Nat.mul_one]
            exact i32s_get hos (by rw [List.getElem?_append_left (by omega)]; exact hx)
          have d5 : decide ((x : Int) < (r : Int)) = true := decide_eq_true (by omega)
          conv => whnf
          repeat' ((first | ((with_reducible refine y'r ?_ ?_); (· decide +kernel)) | ((with_reducible refine y'g ?_ ?_); (· exact ⟨_, rfl⟩)) | (with_reducible first | refine y'b ‹_› ?_ | refine y'3 ?_) | ((with_reducible apply y'o); (· first | exact g0 | exact g1)) | fail) <;> (conv => whnf))
          exact ⟨at_ - (a + 1), by omega, Into.weak [0, 1] [(0, .a (.slc 0 0 n cap)), (3, .a (.slc 1 0 m c)), (4, .a (.int .i64 i)), (5, .a (.int .i64 ((a + 1 : Nat) : Int)))] [.cells rs 21 mk, .cells os 21 bk] ⟨a + 1, by omega, rfl, rfl, rfl⟩ ⟨rfl, rfl, rfl, congrArg (fun z => some (V.a (.int .i64 z))) hwa, trivial⟩ ⟨ren_pl hp _ _ _, ren_pl hq _ _ _, trivial⟩ (by simp [nodupb, baseb, Ob.okb, frmOk, V.okb, A.okb, hp.2, hq.2] <;> decide)⟩
        · obtain rfl : a = at_ := by omega
          have hie := insR_eq O r
          rw [← hat] at hie
          by_cases hor : O[a]? = some r
          · rw [if_pos hor] at hie
            obtain ⟨h1, h2⟩ := List.getElem?_eq_some_iff.1 hor
            have d3 : decide ((a : Int) < (m : Int)) = true := decide_eq_true (by omega)
            have d4 : decide (0 ≤ (a : Int) ∧ (a : Int) < (m : Int)) = true := decide_eq_true (by omega)
            obtain ⟨x, hx, hxr⟩ : ∃ x, O[a]? = some x ∧ x = r := ⟨r, hor, rfl⟩
            clear g1
            have g1 : os[0 + (a : Int).toNat * Tryd.prog.types[21].size]? = some (.int .i32 (x : Int)) := by
              rw [Int.toNat_natCast, s21, Nat.zero_add, Nat.mul_one]
              exact i32s_get hos (by rw [List.getElem?_append_left (by omega)]; exact hx)
            have d5 : decide ((x : Int) < (r : Int)) = false := decide_eq_false (by omega)
            have d6 : ((x : Int) == (r : Int)) = true := by rw [hxr]; simp
            conv => whnf
            repeat' ((first | ((with_reducible refine y'r ?_ ?_); (· decide +kernel)) | ((with_reducible refine y'g ?_ ?_); (· exact ⟨_, rfl⟩)) | (with_reducible first | refine y'b ‹_› ?_ | refine y'3 ?_) | ((with_reducible apply y'o); (· first | exact g0 | exact g1)) | fail) <;> (conv => whnf))
            exact ⟨n - (i + 1), by omega, Into.weak [0, 1] [(0, .a (.slc 0 0 n cap)), (3, .a (.slc 1 0 m c)), (4, .a (.int .i64 ((i + 1 : Nat) : Int)))] [.cells rs 21 mk, .cells os 21 bk] ⟨i + 1, m, c, bk, Y, os, by omega, rfl, by rw [hts, hie]; exact hos, by rw [hts, hie]; exact hm, hc, rfl, rfl⟩ ⟨rfl, rfl, congrArg (fun z => some (V.a (.int .i64 z))) hwi, trivial⟩ ⟨ren_pl hp _ _ _, ren_pl hq _ _ _, trivial⟩ (by simp [nodupb, baseb, Ob.okb, frmOk, V.okb, A.okb, hp.2, hq.2] <;> decide)⟩
          · rw [if_neg hor] at hie
            by_cases ham : a < m
            case' pos =>
              have d3 : decide ((a : Int) < (m : Int)) = true := decide_eq_true (by omega)
              have d4 : decide (0 ≤ (a : Int) ∧ (a : Int) < (m : Int)) = true := decide_eq_true (by omega)
              obtain ⟨x, hx⟩ : ∃ x, O[a]? = some x := ⟨_, List.getElem?_eq_getElem (by omega)⟩
              have hxr := atR_at (r := r) (by rw [← hat]; exact Nat.le_refl _) hx
              rw [← hat] at hxr
              have hxe : x ≠ r := fun h => hor (by rw [hx, h])
              clear g1
              have g1 : os[0 + (a : Int).toNat * Tryd.prog.types[21].size]? = some (.int .i32 (x : Int)) := by
                rw [Int.toNat_natCast, s21, Nat.zero_add, Nat.mul_one]
                exact i32s_get hos (by rw [List.getElem?_append_left (by omega)]; exact hx)
              have d5 : decide ((x : Int) < (r : Int)) = false := decide_eq_false (by omega)
              have d6 : ((x : Int) == (r : Int)) = false := by simp; omega
              conv => whnf
              repeat' ((first | ((with_reducible refine y'r ?_ ?_); (· decide +kernel)) | ((with_reducible refine y'g ?_ ?_); (· exact ⟨_, rfl⟩)) | (with_reducible first | refine y'b ‹_› ?_ | refine y'3 ?_) | ((with_reducible apply y'o); (· first | exact g0 | exact g1)) | fail) <;> (conv => whnf))
              clear g1 d3 d4 d5 d6
            case' neg =>
              have d3 : decide ((a : Int) < (m : Int)) = false := decide_eq_false (by omega)
              conv => whnf
              repeat' ((first | ((with_reducible refine y'r ?_ ?_); (· decide +kernel)) | ((with_reducible refine y'g ?_ ?_); (· exact ⟨_, rfl⟩)) | (with_reducible refine y'b ‹_› ?_) | fail) <;> (conv => whnf))
              clear g1 d3
            all_goals
              refine cutx_of (fun F H => ∃ gr : List A, gr = i32s ([] ++ []) ∧ F = [(0, .a (.slc 0 0 n cap)), (3, .a (.slc 1 0 m c)), (4, .a (.int .i64 i)), (5, .a (.int .i64 a)), (6, .a (.slc 2 0 0 0))] ∧ H = [.cells rs 21 mk, .cells os 21 bk, .cells gr 21 false]) ?_ ?_
              · refine Into.ghost 2 [(0, .a (.slc 0 0 n cap)), (3, .a (.slc 1 0 m c)), (4, .a (.int .i64 i)), (5, .a (.int .i64 a)), (6, .a (.slc 2 0 0 0))] [.cells rs 21 mk, .cells os 21 bk, .cells [] 21 false] rfl ⟨rfl, rfl, rfl, rfl, rfl, trivial⟩ ⟨ung_pl hp.1 _ _ _, ung_pl hq.1 _ _ _, rfl, trivial⟩ (by simp [Ob.okb, frmOk, V.okb, A.okb, hp.2, hq.2] <;> decide) ?_
                exact Into.weak [0, 1, 2] _ [.cells rs 21 mk, .cells os 21 bk, .cells [] 21 false] ⟨[], i32s_nil.symm, rfl, rfl⟩ ⟨rfl, rfl, rfl, rfl, rfl, trivial⟩ ⟨ren_pl hp _ _ _, ren_pl hq _ _ _, rfl, trivial⟩ (by simp [nodupb, baseb, Ob.okb, frmOk, V.okb, A.okb, hp.2, hq.2] <;> decide)
              rintro F H ⟨gr, hgr, rfl, rfl⟩
              have hgp := i32s_pl hgr
              have hgl : gr.length = 0 := by rw [hgr, i32s_len]; rfl
              have e0 : decide (0 ≤ (a : Int) ∧ (a : Int) ≤ (c : Int)) = true := decide_eq_true (by omega)
              have g1 := True.intro
              have ho0 : (if c = 0 then 0 else 0 + 0 * Tryd.prog.types[21].size) = 0 := by split <;> simp
              have ha0 : (a : Int).toNat - 0 = a := rfl
              conv => whnf
              repeat' ((first | (with_reducible refine y'b ‹_› ?_) | fail) <;> (conv => whnf))
              rw [ho0, ha0]
              refine y'n (decide_eq_true (by rw [s21, hol]; omega)) ?_
              obtain ⟨nw, hnw⟩ : ∃ nw, nw = List.drop 0 (List.take (0 + a * Tryd.prog.types[21].size) os) := ⟨_, rfl⟩
              have hnw2 : nw = i32s ((O.drop 0).take a) := by rw [hnw]; exact i32_sub hos (by omega) s21
              rw [List.drop_zero] at hnw2
              have hnl : nw.length = a := by rw [hnw2, i32s_len, List.length_take]; omega
              conv => whnf
              rw [← hnw]
              clear hnw
              refine y'c (fun h => ?_) (fun h => ?_)
              case' refine_1 =>
                have h' := of_decide_eq_true h
                conv => whnf
                refine y'n (decide_eq_true (by rw [s21, hnl, hgl]; omega)) ?_
                conv => whnf
                repeat' ((first | (with_reducible refine y'5 ‹_› ?_) | fail) <;> (conv => whnf))
                refine y'f (i32_ins (L := []) (y := []) hgr hnw2 rfl s21 (by rw [List.length_take]; simp; omega)) (fun xs hxs => ?_)
                conv => whnf
                skip
                have hxp := i32s_pl hxs
                refine cutx_of (fun F H => ∃ (q c2 : Nat) (b2 : Bool) (Y2 : List Nat) (xs : List A), xs = i32s (O.take a ++ Y2) ∧ q = a ∧ c2 = q + Y2.length ∧ F = [(0, .a (.slc 0 0 n cap)), (3, .a (.slc 1 0 m c)), (4, .a (.int .i64 i)), (5, .a (.int .i64 a)), (6, .a (.slc 2 0 q c2))] ∧ H = [.cells rs 21 mk, .cells os 21 bk, .cells xs 21 b2]) (Into.weak [0, 1, 2] [(0, .a (.slc 0 0 n cap)), (3, .a (.slc 1 0 m c)), (4, .a (.int .i64 i)), (5, .a (.int .i64 a)), (6, .a (.slc 2 0 (0 + a) (0)))] [.cells rs 21 mk, .cells os 21 bk, .cells xs 21 false] ⟨_, _, false, [], xs, (by rw [hxs]; simp), Nat.zero_add a, (by simp; omega), rfl, rfl⟩ ⟨rfl, rfl, rfl, rfl, rfl, trivial⟩ ⟨ren_pl hp _ _ _, ren_pl hq _ _ _, ren_pl hxp _ _ _, trivial⟩ (by simp [nodupb, baseb, Ob.okb, frmOk, V.okb, A.okb, hp.2, hq.2, hxp.2] <;> decide)) ?_
              case' refine_2 =>
                have h' := of_decide_eq_false h
                conv => whnf
                refine y'n (decide_eq_true (by rw [s21, b21, hgl]; omega)) ?_
                intro cap' hcap'
                conv => whnf
                repeat' ((first | (with_reducible refine y'5 ‹_› ?_) | fail) <;> (conv => whnf))
                refine y'f (i32_cat (L := []) (y := []) hgr hnw2 rfl s21 rfl) (fun xs hxs => ?_)
                conv => whnf
                skip
                have hxp := i32s_pl hxs
                refine cutx_of (fun F H => ∃ (q c2 : Nat) (b2 : Bool) (Y2 : List Nat) (xs : List A), xs = i32s (O.take a ++ Y2) ∧ q = a ∧ c2 = q + Y2.length ∧ F = [(0, .a (.slc 0 0 n cap)), (3, .a (.slc 1 0 m c)), (4, .a (.int .i64 i)), (5, .a (.int .i64 a)), (6, .a (.slc 2 0 q c2))] ∧ H = [.cells rs 21 mk, .cells os 21 bk, .cells xs 21 b2]) (Into.weak [0, 1, 3] [(0, .a (.slc 0 0 n cap)), (3, .a (.slc 1 0 m c)), (4, .a (.int .i64 i)), (5, .a (.int .i64 a)), (6, .a (.slc 2 0 (0 + a) (cap')))] [.cells rs 21 mk, .cells os 21 bk, .cells xs 21 false] ⟨_, _, false, (List.replicate (cap' - (0 + a)) 0), xs, (by rw [hxs]; simp), Nat.zero_add a, (by rw [List.length_replicate]; omega), rfl, rfl⟩ ⟨rfl, rfl, rfl, rfl, rfl, trivial⟩ ⟨ren_pl hp _ _ _, ren_pl hq _ _ _, ren_pl hxp _ _ _, trivial⟩ (by simp [nodupb, baseb, Ob.okb, frmOk, V.okb, A.okb, hp.2, hq.2, hxp.2] <;> decide)) ?_
              all_goals
                clear xs hxs hxp
                clear gr hgr hgp hgl nw hnw2 hnl
                rintro F H ⟨q, c2, b2, Y2, xs, hxs, hq2, hc2, rfl, rfl⟩
                have hxq := i32s_pl hxs
                have hxl : xs.length = c2 := by rw [hxs, i32s_len, List.length_append, List.length_take, hc2]; omega
                conv => whnf
                repeat' ((first | (with_reducible first | refine y'b ‹_› ?_ | refine y'3 ?_) | (with_reducible refine y'5 ‹_› ?_) | ((with_reducible apply y'o); (· first | exact g0 | exact g1)) | fail) <;> (conv => whnf))
                refine y'c (fun h => ?_) (fun h => ?_)
                case' refine_1 =>
                  have h' := of_decide_eq_true h
                  conv => whnf
                  refine y'n (decide_eq_true (by simp [s21]; omega)) ?_
                  conv => whnf
                  repeat' ((first | (with_reducible refine y'5 ‹_› ?_) | fail) <;> (conv => whnf))
                  refine y'f (i32_in hxs (by rw [List.length_take]; omega) s21 (by omega) (x := r) rfl) (fun xt hxt => ?_)
                  conv => whnf
                  skip
                  have hxp := i32s_pl hxt
                  refine cutx_of (fun F H => ∃ (q c2 : Nat) (b2 : Bool) (Y2 : List Nat) (xs : List A), xs = i32s ((O.take a ++ [r]) ++ Y2) ∧ q = a + 1 ∧ c2 = q + Y2.length ∧ F = [(0, .a (.slc 0 0 n cap)), (3, .a (.slc 1 0 m c)), (4, .a (.int .i64 i)), (5, .a (.int .i64 a)), (6, .a (.slc 2 0 q c2))] ∧ H = [.cells rs 21 mk, .cells os 21 bk, .cells xs 21 b2]) (Into.weak [0, 1, 2] [(0, .a (.slc 0 0 n cap)), (3, .a (.slc 1 0 m c)), (4, .a (.int .i64 i)), (5, .a (.int .i64 a)), (6, .a (.slc 2 0 (q + 1) (c2)))] [.cells rs 21 mk, .cells os 21 bk, .cells xt 21 b2] ⟨_, _, b2, Y2.tail, xt, hxt, (by omega), (by rw [List.length_tail]; omega), rfl, rfl⟩ ⟨rfl, rfl, rfl, rfl, rfl, trivial⟩ ⟨ren_pl hp _ _ _, ren_pl hq _ _ _, ren_pl hxp _ _ _, trivial⟩ (by simp [nodupb, baseb, Ob.okb, frmOk, V.okb, A.okb, hp.2, hq.2, hxp.2] <;> decide)) ?_
                case' refine_2 =>
                  have h' := of_decide_eq_false h
                  conv => whnf
                  refine y'n (decide_eq_true (by simp [s21, b21]; omega)) ?_
                  intro cap' hcap'
                  conv => whnf
                  repeat' ((first | (with_reducible refine y'5 ‹_› ?_) | fail) <;> (conv => whnf))
                  refine y'f (i32_new (c := cap') hxs (by rw [List.length_take]; omega) s21 rfl (x := r) rfl) (fun xt hxt => ?_)
                  conv => whnf
                  skip
                  have hxp := i32s_pl hxt
                  refine cutx_of (fun F H => ∃ (q c2 : Nat) (b2 : Bool) (Y2 : List Nat) (xs : List A), xs = i32s ((O.take a ++ [r]) ++ Y2) ∧ q = a + 1 ∧ c2 = q + Y2.length ∧ F = [(0, .a (.slc 0 0 n cap)), (3, .a (.slc 1 0 m c)), (4, .a (.int .i64 i)), (5, .a (.int .i64 a)), (6, .a (.slc 2 0 q c2))] ∧ H = [.cells rs 21 mk, .cells os 21 bk, .cells xs 21 b2]) (Into.weak [0, 1, 4] [(0, .a (.slc 0 0 n cap)), (3, .a (.slc 1 0 m c)), (4, .a (.int .i64 i)), (5, .a (.int .i64 a)), (6, .a (.slc 2 0 (q + 1) (cap')))] [.cells rs 21 mk, .cells os 21 bk, .cells xt 21 false] ⟨_, _, false, (List.replicate (cap' - (q + 1)) 0), xt, hxt, (by omega), (by rw [List.length_replicate]; omega), rfl, rfl⟩ ⟨rfl, rfl, rfl, rfl, rfl, trivial⟩ ⟨ren_pl hp _ _ _, ren_pl hq _ _ _, ren_pl hxp _ _ _, trivial⟩ (by simp [nodupb, baseb, Ob.okb, frmOk, V.okb, A.okb, hp.2, hq.2, hxp.2] <;> decide)) ?_
                all_goals
                  clear xt hxt hxp xs hxs hxq hxl hc2 hq2 h h'
                  rintro F H ⟨q, c2, b2, Y2, xs, hxs, hq2, hc2, rfl, rfl⟩
                  have hxq := i32s_pl hxs
                  have hxl : xs.length = c2 := by rw [hxs, i32s_len, List.length_append, List.length_append, List.length_take, hc2]; simp; omega
                  obtain ⟨off, hoff⟩ : ∃ off, off = (if c = a then 0 else 0 + a * Tryd.prog.types[21].size) := ⟨_, rfl⟩
                  have hof2 : off + (m - a) * Tryd.prog.types[21].size ≤ os.length ∧ List.drop off (List.take (off + (m - a) * Tryd.prog.types[21].size) os) = i32s (O.drop a) := by
                    rw [s21, Nat.mul_one] at hoff
                    by_cases hca : c = a
                    · rw [if_pos hca] at hoff
                      have hma : m - a = 0 := by omega
                      rw [hma, hoff]
                      exact ⟨by omega, by rw [show O.drop a = [] from List.drop_eq_nil_of_le (by omega), i32s_nil]; simp⟩
                    · rw [if_neg hca, Nat.zero_add] at hoff
                      rw [hoff]
                      refine ⟨by rw [s21, hol]; omega, ?_⟩
                      rw [i32_sub hos (by omega) s21, List.take_of_length_le (by rw [List.length_drop]; omega)]
                  have ha1 : (a : Int).toNat = a := rfl
                  have e1 : decide (0 ≤ (a : Int) ∧ (a : Int) ≤ (m : Int)) = true := decide_eq_true (by omega)
                  conv => whnf
                  repeat' ((first | (with_reducible refine y'b ‹_› ?_) | fail) <;> (conv => whnf))
                  rw [ha1, ← hoff]
                  refine y'n (decide_eq_true hof2.1) ?_
                  obtain ⟨nw, hnw⟩ : ∃ nw, nw = List.drop off (List.take (off + (m - a) * Tryd.prog.types[21].size) os) := ⟨_, rfl⟩
                  have hnw2 : nw = i32s (O.drop a) := hnw.trans hof2.2
                  have hnl : nw.length = m - a := by rw [hnw2, i32s_len, List.length_drop]; omega
                  conv => whnf
                  rw [← hnw]
                  clear hnw hof2 hoff ha1
                  refine y'c (fun h => ?_) (fun h => ?_)
                  · have h' := of_decide_eq_true h
                    conv => whnf
                    refine y'n (decide_eq_true (by rw [s21, hnl, hxl]; omega)) ?_
                    conv => whnf
                    repeat' ((first | (with_reducible refine y'5 ‹_› ?_) | fail) <;> (conv => whnf))
                    refine y'f (i32_ins (n := q) hxs hnw2 (by simp; omega) s21 (by rw [List.length_drop]; omega)) (fun xt hxt => ?_)
                    conv => whnf
                    skip
                    have hxp := i32s_pl hxt
                    exact ⟨n - (i + 1), by omega, Into.weak [0, 2] [(0, .a (.slc 0 0 n cap)), (3, .a (.slc 1 0 (q + (m - a)) c2)), (4, .a (.int .i64 ((i + 1 : Nat) : Int)))] [.cells rs 21 mk, .cells xt 21 b2] ⟨i + 1, _, _, b2, _, xt, by omega, rfl, (by rw [hts, hie]; exact hxt), (by rw [hts, hie]; simp; omega), (by simp; omega), rfl, rfl⟩ ⟨rfl, rfl, congrArg (fun z => some (V.a (.int .i64 z))) hwi, trivial⟩ ⟨ren_pl hp _ _ _, ren_pl hxp _ _ _, trivial⟩ (by simp [nodupb, baseb, Ob.okb, frmOk, V.okb, A.okb, hp.2, hxp.2] <;> decide)⟩
                  · have h' := of_decide_eq_false h
                    conv => whnf
                    refine y'n (decide_eq_true (by simp [s21, b21, hxl]; omega)) ?_
                    intro cap' hcap'
                    conv => whnf
                    repeat' ((first | (with_reducible refine y'5 ‹_› ?_) | fail) <;> (conv => whnf))
                    refine y'f (i32_cat (n := q) (c := cap') hxs hnw2 (by simp; omega) s21 rfl) (fun xt hxt => ?_)
                    conv => whnf
                    skip
                    have hxp := i32s_pl hxt
                    exact ⟨n - (i + 1), by omega, Into.weak [0, 3] [(0, .a (.slc 0 0 n cap)), (3, .a (.slc 1 0 (q + (m - a)) cap')), (4, .a (.int .i64 ((i + 1 : Nat) : Int)))] [.cells rs 21 mk, .cells xt 21 false] ⟨i + 1, _, _, false, _, xt, by omega, rfl, (by rw [hts, hie]; exact hxt), (by rw [hts, hie]; simp; omega), (by simp; omega), rfl, rfl⟩ ⟨rfl, rfl, congrArg (fun z => some (V.a (.int .i64 z))) hwi, trivial⟩ ⟨ren_pl hp _ _ _, ren_pl hxp _ _ _, trivial⟩ (by simp [nodupb, baseb, Ob.okb, frmOk, V.okb, A.okb, hp.2, hxp.2] <;> decide)⟩
    · have d1 : decide ((i : Int) < (n : Int)) = false := decide_eq_false (by omega)
      rw [show i = n by omega, List.take_of_length_le (by omega)] at hos hm
      have hk := hK os Y m c bk hos hm hc
      have g0 := True.intro
      have g1 := True.intro
      conv => whnf
      repeat' ((first | (with_reducible refine y'b ‹_› ?_) | fail) <;> (conv => whnf))
      exact keepOf (v₀ := .a (.slc 1 0 m c)) [.cells rs 21 mk, .cells os 21 bk] [0, 1] rfl ⟨ren_pl hp _ _ _, ren_pl hq _ _ _, trivial⟩ (by simp [nodupb, baseb, Ob.okb, frmOk, V.okb, A.okb, hp.2, hq.2] <;> decide) hk
end
end Go.Proofs.YtimddbgnaeeggaaDoor.KD
namespace Go.Proofs.YtimddbgnaeeggaaDoor.KD
open Go.Eng
set_option maxRecDepth 100000
section
variable {ro : Addr → A → Prop}
set_option maxHeartbeats 4000000 in
theorem countG (kk : Int) (on : Bool) (E X : List Cn) (fs rs ss : List A) (hf : Pl fs) (hs : Pl ss) (nf cf nr cr : Nat) (mk1 mk3 : Bool) (n cap : Nat) (mk : Bool) (r : Nat) (hrs : rs = cts (E ++ X)) (hn : n = E.length) (hn9 : n ≤ 9) {K : V → Hp → Prop}
    (hK : ∀ kr, kr = (cnt E r).row → K (.g kr) [.cells fs 23 mk1, .cells rs 104 mk, .cells ss 21 mk3]) :
    Go.Eng.Fn Tryd.prog ro 91 [.g [.int .u8 kk, .bool on, .slc 0 0 nf cf, .slc 1 0 n cap, .slc 2 0 nr cr], .a (.int .u8 (r : Int))] [.cells fs 23 mk1, .cells rs 104 mk, .cells ss 21 mk3] K := by
  have hp := cts_pl hrs
  replace hK := hK _ rfl
  obtain ⟨q, hq⟩ : ∃ q : Int, q = (r : Int) := ⟨_, rfl⟩
  rw [← hq]
  refine Fn.weak ?_
  refine Fn.of 3 (gOf []) rfl Tryd.func91 rfl (Nat.le_of_ble_eq_true rfl) ?_
  conv => whnf
  repeat' ((first | (with_reducible refine y'5 ‹_› ?_) | fail) <;> (conv => whnf))
  refine loopx_of (fun m F H => ∃ (i : Nat) (z : Int), z = (i : Int) ∧ i ≤ n ∧ m = n - i ∧ cnt E r = cnt (E.drop i) r ∧ F = [(1, .a (.int .u8 q)), (2, .a (.ptr 3 0)), (4, .a (.ptr 4 0)), (5, .a (.int .i64 z))] ∧ H = [.cells fs 23 mk1, .cells rs 104 mk, .cells ss 21 mk3, .cells [.int .u8 kk, .bool on, .slc 0 0 nf cf, .slc 1 0 n cap, .slc 2 0 nr cr] 57 false, .cells [.int .u8 0, .int .i64 0, .int .i64 0] 104 false]) n ?_ ?_
  · exact Into.weak [0, 1, 2, 3, 4] [(1, .a (.int .u8 q)), (2, .a (.ptr 3 0)), (4, .a (.ptr 4 0)), (5, .a (.int .i64 0))] [.cells fs 23 mk1, .cells rs 104 mk, .cells ss 21 mk3, .cells [.int .u8 kk, .bool on, .slc 0 0 nf cf, .slc 1 0 n cap, .slc 2 0 nr cr] 57 false, .cells [.int .u8 0, .int .i64 0, .int .i64 0] 104 false] ⟨0, 0, rfl, Nat.zero_le _, rfl, rfl, rfl, rfl⟩ ⟨rfl, rfl, rfl, rfl, trivial⟩ ⟨ren_pl hf _ _ _, ren_pl hp _ _ _, ren_pl hs _ _ _, rfl, rfl, trivial⟩ (by simp [nodupb, baseb, Ob.okb, frmOk, V.okb, A.okb, hp.2, hf.2, hs.2] <;> decide)
  · rintro m F H ⟨i, z, hz, hi, rfl, hcn, rfl, rfl⟩
    have hw : IntKind.i64.wrap (z + 1) = ((i + 1 : Nat) : Int) := by rw [i64w (by omega) (by omega)]; omega
    by_cases hin : i < n
    · have d1 : decide (z < (n : Int)) = true := decide_eq_true (by omega)
      obtain ⟨e, he⟩ : ∃ e, E[i]? = some e := ⟨_, List.getElem?_eq_getElem (by omega)⟩
      have heX : (E ++ X)[i]? = some e := by rw [List.getElem?_append_left (by omega)]; exact he
      have hdr : E.drop i = e :: E.drop (i + 1) := by
        obtain ⟨h1, h2⟩ := List.getElem?_eq_some_iff.1 he
        rw [List.drop_eq_getElem_cons h1, h2]
      rw [hdr] at hcn
      obtain ⟨w, hw0⟩ : ∃ w : Int, w = (e.who : Int) := ⟨_, rfl⟩
      have q1 : rs[0 + z.toNat * Tryd.prog.types[104].size + 0]? = some (.int .u8 w) := by rw [hz, Int.toNat_natCast, s68, Nat.zero_add, Nat.add_zero, hw0]; exact cts_get0 hrs heX
      conv => whnf
      repeat' ((first | (with_reducible first | refine y'b ‹_› ?_ | refine y'3 ?_) | ((with_reducible refine y'n ?_ ?_); (· first | assumption | exact decide_eq_true (by omega) | decide +kernel)) | fail) <;> (conv => whnf))
      refine y'o (show rs[0 + z.toNat * Tryd.prog.types[104].size + 0]? = some (.int .u8 w) from q1) ?_
      by_cases hr : e.who = r
      · have c1 : (w == q) = true := by simp; omega
        have hce : cnt E r = e := by rw [hcn]; unfold cnt; rw [if_pos hr]
        have hk := hK
        rw [hce] at hk
        have hpk := cts_pick hrs heX
        rw [← hz] at hpk
        obtain ⟨xr, hxr⟩ : ∃ xr : List A, xr = e.row := ⟨_, rfl⟩
        have hxr2 : ([.int .u8 e.who, .int .i64 e.up, .int .i64 e.down] : List A) = xr := by rw [hxr]; rfl
        rw [hxr2] at hpk
        rw [← hxr] at hk
        have hxp : Pl xr := by rw [hxr]; exact ⟨fun _ => rfl, fun _ => rfl⟩
        have hxl : xr.length = 3 := by rw [hxr]; rfl
        have hok : decide (0 + z.toNat * Tryd.prog.types[104].size + Tryd.prog.types[104].size ≤ rs.length) = true := by rw [hz]; exact cts_ok hrs (by rw [List.length_append]; omega)
        conv => whnf
        repeat' ((first | (with_reducible first | refine y'b ‹_› ?_ | refine y'3 ?_) | ((with_reducible refine y'n ?_ ?_); (· first | assumption | exact decide_eq_true (by omega) | decide +kernel)) | fail) <;> (conv => whnf))
        refine y't hpk ?_
        conv => whnf
        skip
        refine y'n (by rw [hxl]; rfl) ?_
        conv => whnf
        repeat' ((first | (with_reducible refine y'5 ‹_› ?_) | fail) <;> (conv => whnf))
        refine y't (store_all (by rw [hxl]; rfl)) ?_
        conv => whnf
        skip
        refine y'n (by rw [s68, hxl]; rfl) ?_
        conv => whnf
        have hxw : List.drop 0 (List.take (0 + Tryd.prog.types[104].size) xr) = xr := by rw [s68, List.drop_zero, List.take_of_length_le (by omega)]
        rw [hxw]
        exact keepOf (v₀ := .g xr) [.cells fs 23 mk1, .cells rs 104 mk, .cells ss 21 mk3] [0, 1, 2] (by simp [V.ren, hxp.1]) ⟨ren_pl hf _ _ _, ren_pl hp _ _ _, ren_pl hs _ _ _, trivial⟩ (by simp [nodupb, baseb, Ob.okb, frmOk, V.okb, hp.2, hf.2, hs.2, hxp.2] <;> decide) hk
      · have c1 : (w == q) = false := by simp; omega
        conv => whnf
        repeat' ((first | (with_reducible refine y'b ‹_› ?_) | fail) <;> (conv => whnf))
        exact ⟨n - (i + 1), by omega, Into.weak [0, 1, 2, 3, 4] [(1, .a (.int .u8 q)), (2, .a (.ptr 3 0)), (4, .a (.ptr 4 0)), (5, .a (.int .i64 ((i + 1 : Nat) : Int)))] [.cells fs 23 mk1, .cells rs 104 mk, .cells ss 21 mk3, .cells [.int .u8 kk, .bool on, .slc 0 0 nf cf, .slc 1 0 n cap, .slc 2 0 nr cr] 57 false, .cells [.int .u8 0, .int .i64 0, .int .i64 0] 104 false] ⟨i + 1, _, rfl, by omega, rfl, by rw [hcn]; show (if _ then _ else _) = _; rw [if_neg hr], rfl, rfl⟩ ⟨rfl, rfl, rfl, congrArg (fun z => some (V.a (.int .i64 z))) hw, trivial⟩ ⟨ren_pl hf _ _ _, ren_pl hp _ _ _, ren_pl hs _ _ _, rfl, rfl, trivial⟩ (by simp [nodupb, baseb, Ob.okb, frmOk, V.okb, A.okb, hp.2, hf.2, hs.2] <;> decide)⟩
    · have d1 : decide (z < (n : Int)) = false := decide_eq_false (by omega)
      rw [List.drop_eq_nil_of_le (by omega)] at hcn
      have hk := hK
      rw [hcn] at hk
      have hk2 : K (.g [.int .u8 q, .int .i64 0, .int .i64 0]) [.cells fs 23 mk1, .cells rs 104 mk, .cells ss 21 mk3] := by rw [hq]; exact hk
      conv => whnf
      repeat' ((first | (with_reducible refine y'b ‹_› ?_) | (with_reducible refine y'5 ‹_› ?_) | fail) <;> (conv => whnf))
      exact keepOf (v₀ := .g [.int .u8 q, .int .i64 0, .int .i64 0]) [.cells fs 23 mk1, .cells rs 104 mk, .cells ss 21 mk3] [0, 1, 2] rfl ⟨ren_pl hf _ _ _, ren_pl hp _ _ _, ren_pl hs _ _ _, trivial⟩ (by simp [nodupb, baseb, Ob.okb, frmOk, V.okb, A.okb, hp.2, hf.2, hs.2] <;> decide) hk2
end
end Go.Proofs.YtimddbgnaeeggaaDoor.KD
namespace Go.Proofs.YtimddbgnaeeggaaDoor.KD
open Go.Eng
set_option maxRecDepth 100000
section
variable {ro : Addr → A → Prop}
set_option maxHeartbeats 8000000 in
theorem toldG (kb : UInt8) (on : Bool) (vs Y : List Nat) (E X : List Cn) (L Z : List Nat) (fs rs ss : List A) (n1 c1 n cap n3 c3 : Nat) (mk1 mk mk3 : Bool) (hfs : fs = f64s (vs ++ Y)) (hn1 : n1 = vs.length) (hn19 : n1 ≤ 9) (hV : ∀ v ∈ vs, v < 18446744073709551616)
    (hrs : rs = cts (E ++ X)) (hn : n = E.length) (hn9 : n ≤ 9) (hE : ∀ e ∈ E, e.who < 256 ∧ e.up < 65536 ∧ e.down < 65536) (hss : ss = i32s (L ++ Z)) (hn3 : n3 = L.length) (hn39 : n3 ≤ 1000) (hR : ∀ r ∈ L, r < 1114112) {K : V → Hp → Prop}
    (hK : K (.a (.str (bs ([kb] ++ onB kb on ++ flF vs ++ cbs E ++ flat L)))) [.cells fs 23 mk1, .cells rs 104 mk, .cells ss 21 mk3]) :
    Go.Eng.Fn Tryd.prog ro 56 [.g [.int .u8 (kb.toNat : Int), .bool on, .slc 0 0 n1 c1, .slc 1 0 n cap, .slc 2 0 n3 c3]] [.cells fs 23 mk1, .cells rs 104 mk, .cells ss 21 mk3] K := by
  have hp := cts_pl hrs
  have hf := f64s_pl hfs
  have hs := i32s_pl hss
  obtain ⟨z, hz⟩ : ∃ z : Int, z = (kb.toNat : Int) := ⟨_, rfl⟩
  have hzl : 0 ≤ z ∧ z < 256 := by have := kb.toNat_lt; omega
  rw [← hz]
  have hob := onB_len kb on
  have g0 := True.intro
  have g1 := True.intro
  have g2 := True.intro
  refine Fn.weak ?_
  refine Fn.of 3 (cutAt [6] h56) rfl Tryd.func56 rfl (Nat.le_of_ble_eq_true rfl) ?_
  have hks : ({ data := #[UInt8.ofNat z.toNat] } : ByteArray) = bs [kb] := by
    rw [hz, Int.toNat_natCast]
    simp [bs]
  obtain ⟨P0, hP0⟩ : ∃ P, P = [kb] ++ onB kb on := ⟨_, rfl⟩
  rw [← hP0] at hK
  have hP0l : P0.length ≤ 2 := by rw [hP0, List.length_append, List.length_singleton]; omega
  have hcut : (kb = 1 ∧ on = true ∧ P0 = [1, 1]) ∨ (kb = 1 ∧ on = false ∧ P0 = [1, 0]) ∨ (kb ≠ 1 ∧ P0 = [kb]) := by
    by_cases h : kb = 1
    · subst h
      cases on
      · exact .inr (.inl ⟨rfl, rfl, hP0⟩)
      · exact .inl ⟨rfl, rfl, hP0⟩
    · refine .inr (.inr ⟨h, ?_⟩)
      rw [hP0]; unfold onB; rw [if_neg h]; rfl
  have hcutx : ∀ t0 : ByteArray, t0 = bs P0 → t0 = bs P0 := fun _ h => h
  rcases hcut with ⟨h1, h2, h3⟩ | ⟨h1, h2, h3⟩ | ⟨h1, h3⟩
  case' inl =>
    have hz1 : (z == 1) = true := by rw [hz, h1]; rfl
    have ht0 : ({ data := #[UInt8.ofNat z.toNat] } : ByteArray) ++ ({ data := #[1] } : ByteArray) = bs P0 := by rw [hks, h1, h3]; rfl
    conv => whnf
    repeat' ((first | (with_reducible refine y'b ‹_› ?_) | (with_reducible refine y'5 ‹_› ?_) | fail) <;> (conv => whnf))
    rw [ht0]
  case' inr.inl =>
    have hz1 : (z == 1) = true := by rw [hz, h1]; rfl
    have ht0 : ({ data := #[UInt8.ofNat z.toNat] } : ByteArray) ++ ({ data := #[0] } : ByteArray) = bs P0 := by rw [hks, h1, h3]; rfl
    conv => whnf
    repeat' ((first | (with_reducible refine y'b ‹_› ?_) | (with_reducible refine y'5 ‹_› ?_) | fail) <;> (conv => whnf))
    rw [ht0]
  case' inr.inr =>
    have hz1 : (z == 1) = false := by
      simp only [beq_eq_false_iff_ne, ne_eq]
      intro e
      exact h1 (UInt8.toNat_inj.1 (show kb.toNat = 1 by omega))
    have ht0 : ({ data := #[UInt8.ofNat z.toNat] } : ByteArray) = bs P0 := by rw [hks, h3]
    conv => whnf
    repeat' ((first | (with_reducible refine y'b ‹_› ?_) | (with_reducible refine y'5 ‹_› ?_) | fail) <;> (conv => whnf))
    rw [ht0]
  all_goals
    clear g0
    refine cutx_of (fun F H => ∃ t0, t0 = bs P0 ∧ F = [(1, .a (.ptr 3 0)), (3, .a (.str t0))] ∧ H = [.cells fs 23 mk1, .cells rs 104 mk, .cells ss 21 mk3, .cells [.int .u8 z, .bool on, .slc 0 0 n1 c1, .slc 1 0 n cap, .slc 2 0 n3 c3] 57 false]) ?_ ?_
    · exact Into.weak [0, 1, 2, 3] [(1, .a (.ptr 3 0)), (3, .a (.str (bs P0)))] [.cells fs 23 mk1, .cells rs 104 mk, .cells ss 21 mk3, .cells [.int .u8 z, .bool on, .slc 0 0 n1 c1, .slc 1 0 n cap, .slc 2 0 n3 c3] 57 false] ⟨_, rfl, rfl, rfl⟩ ⟨rfl, rfl, trivial⟩ ⟨ren_pl hf _ _ _, ren_pl hp _ _ _, ren_pl hs _ _ _, rfl, trivial⟩ (by simp [nodupb, baseb, Ob.okb, frmOk, V.okb, A.okb, hp.2, hf.2, hs.2] <;> decide)
    rintro F H ⟨t0, ht0', rfl, rfl⟩
    replace ht0 := ht0'
    clear ht0'
    conv => whnf
    skip
    refine loopx_of (fun m F H => ∃ (i : Nat) (t : ByteArray), i ≤ n1 ∧ m = n1 - i ∧ t = bs (P0 ++ flF (vs.take i)) ∧ F = [(1, .a (.ptr 3 0)), (3, .a (.str t)), (4, .a (.int .i64 i))] ∧ H = [.cells fs 23 mk1, .cells rs 104 mk, .cells ss 21 mk3, .cells [.int .u8 z, .bool on, .slc 0 0 n1 c1, .slc 1 0 n cap, .slc 2 0 n3 c3] 57 false]) n1 ?_ ?_
    · exact Into.weak [0, 1, 2, 3] [(1, .a (.ptr 3 0)), (3, .a (.str t0)), (4, .a (.int .i64 (0 : Nat)))] [.cells fs 23 mk1, .cells rs 104 mk, .cells ss 21 mk3, .cells [.int .u8 z, .bool on, .slc 0 0 n1 c1, .slc 1 0 n cap, .slc 2 0 n3 c3] 57 false] ⟨0, _, Nat.zero_le _, rfl, by rw [List.take_zero, flF_nil, List.append_nil]; exact ht0, rfl, rfl⟩ ⟨rfl, rfl, rfl, trivial⟩ ⟨ren_pl hf _ _ _, ren_pl hp _ _ _, ren_pl hs _ _ _, rfl, trivial⟩ (by simp [nodupb, baseb, Ob.okb, frmOk, V.okb, A.okb, hp.2, hf.2, hs.2] <;> decide)
    · rintro m F H ⟨i, t, hi, rfl, ht, rfl, rfl⟩
      have hw : IntKind.i64.wrap (↑i + 1) = ((i + 1 : Nat) : Int) := by rw [i64w (by omega) (by omega)]; rfl
      by_cases hin : i < n1
      · have d1 : decide ((i : Int) < (n1 : Int)) = true := decide_eq_true (by omega)
        have d2 : decide (0 ≤ (i : Int) ∧ (i : Int) < (n1 : Int)) = true := decide_eq_true (by omega)
        have htz : t.size ≤ 100 := by
          rw [ht, bs_size, List.length_append, flF_len, List.length_take]; omega
        obtain ⟨e, he⟩ : ∃ e, vs[i]? = some e := ⟨_, List.getElem?_eq_getElem (by omega)⟩
        have g0 : fs[0 + (i : Int).toNat * Tryd.prog.types[23].size]? = some (.flt .f64 e) := by
          rw [Int.toNat_natCast, s23, Nat.zero_add, Nat.mul_one]
          exact f64s_get hfs (by rw [List.getElem?_append_left (by omega)]; exact he)
        have hts : vs.take (i + 1) = vs.take i ++ [e] := by rw [List.take_add_one, he]; rfl
        have hnx : t ++ bs (be 8 (fbits e)) = bs (P0 ++ flF (vs.take (i + 1))) := by rw [ht, bs_append, hts, flF_snoc, List.append_assoc]
        conv => whnf
        repeat' ((first | (with_reducible first | refine y'b ‹_› ?_ | refine y'3 ?_) | ((with_reducible apply y'o); (· first | exact g0 | exact g1 | exact g2)) | fail) <;> (conv => whnf))
        refine Fn.frame [] (by rfl) (by exact trivial) (by rfl) (refFloat e (hV e (List.mem_of_getElem? he)) ?_)
        conv => whnf
        repeat' ((first | (with_reducible refine y'5 ‹_› ?_) | ((with_reducible refine y'n ?_ ?_); (· refine decide_eq_true ?_; first | (rw [bs_size, be_length]; omega) | (rw [bs_size]; omega))) | fail) <;> (conv => whnf))
        exact ⟨n1 - (i + 1), by omega, Into.weak [0, 1, 2, 3] [(1, .a (.ptr 3 0)), (3, .a (.str (t ++ bs (be 8 (fbits e))))), (4, .a (.int .i64 ((i + 1 : Nat) : Int)))] [.cells fs 23 mk1, .cells rs 104 mk, .cells ss 21 mk3, .cells [.int .u8 z, .bool on, .slc 0 0 n1 c1, .slc 1 0 n cap, .slc 2 0 n3 c3] 57 false] ⟨i + 1, _, by omega, rfl, hnx, rfl, rfl⟩ ⟨rfl, rfl, congrArg (fun z => some (V.a (.int .i64 z))) hw, trivial⟩ ⟨ren_pl hf _ _ _, ren_pl hp _ _ _, ren_pl hs _ _ _, rfl, trivial⟩ (by simp [nodupb, baseb, Ob.okb, frmOk, V.okb, A.okb, hp.2, hf.2, hs.2] <;> decide)⟩
      · have d1 : decide ((i : Int) < (n1 : Int)) = false := decide_eq_false (by omega)
        rw [show i = n1 by omega, List.take_of_length_le (by omega)] at ht
        obtain ⟨P1, hP1⟩ : ∃ P, P = P0 ++ flF vs := ⟨_, rfl⟩
        rw [← hP1] at ht hK
        have hP1l : P1.length ≤ 100 := by rw [hP1, List.length_append, flF_len]; omega
        conv => whnf
        repeat' ((first | (with_reducible refine y'b ‹_› ?_) | fail) <;> (conv => whnf))
        refine loopx_of (fun m F H => ∃ (i : Nat) (t : ByteArray), i ≤ n ∧ m = n - i ∧ t = bs (P1 ++ cbs (E.take i)) ∧ F = [(1, .a (.ptr 3 0)), (3, .a (.str t)), (5, .a (.int .i64 i))] ∧ H = [.cells fs 23 mk1, .cells rs 104 mk, .cells ss 21 mk3, .cells [.int .u8 z, .bool on, .slc 0 0 n1 c1, .slc 1 0 n cap, .slc 2 0 n3 c3] 57 false]) n ?_ ?_
        · exact Into.weak [0, 1, 2, 3] [(1, .a (.ptr 3 0)), (3, .a (.str t)), (5, .a (.int .i64 (0 : Nat)))] [.cells fs 23 mk1, .cells rs 104 mk, .cells ss 21 mk3, .cells [.int .u8 z, .bool on, .slc 0 0 n1 c1, .slc 1 0 n cap, .slc 2 0 n3 c3] 57 false] ⟨0, _, Nat.zero_le _, rfl, by rw [List.take_zero, cbs_nil, List.append_nil]; exact ht, rfl, rfl⟩ ⟨rfl, rfl, rfl, trivial⟩ ⟨ren_pl hf _ _ _, ren_pl hp _ _ _, ren_pl hs _ _ _, rfl, trivial⟩ (by simp [nodupb, baseb, Ob.okb, frmOk, V.okb, A.okb, hp.2, hf.2, hs.2] <;> decide)
        · rintro m F H ⟨i, t, hi, rfl, ht, rfl, rfl⟩
          have hw : IntKind.i64.wrap (↑i + 1) = ((i + 1 : Nat) : Int) := by rw [i64w (by omega) (by omega)]; rfl
          by_cases hin : i < n
          · have d1 : decide ((i : Int) < (n : Int)) = true := decide_eq_true (by omega)
            have d2 : decide (0 ≤ (i : Int) ∧ (i : Int) < (n : Int)) = true := decide_eq_true (by omega)
            have htz : t.size ≤ 200 := by
              rw [ht, bs_size, List.length_append, cbs_len, List.length_take]; omega
            obtain ⟨e, he⟩ : ∃ e, E[i]? = some e := ⟨_, List.getElem?_eq_getElem (by omega)⟩
            obtain ⟨b1, b2, b3⟩ := hE e (List.mem_of_getElem? he)
            have heX : (E ++ X)[i]? = some e := by rw [List.getElem?_append_left (by omega)]; exact he
            have hts : E.take (i + 1) = E.take i ++ [e] := by rw [List.take_add_one, he]; rfl
            conv => whnf
            repeat' ((first | (with_reducible first | refine y'b ‹_› ?_ | refine y'3 ?_) | fail) <;> (conv => whnf))
            refine y'n (cts_ok hrs (by rw [List.length_append]; omega)) ?_
            conv => whnf
            refine y't (cts_pick hrs heX) ?_
            obtain ⟨w, hw0⟩ : ∃ w : Int, w = (e.who : Int) := ⟨_, rfl⟩
            obtain ⟨u, hu0⟩ : ∃ u : Int, u = (e.up : Int) := ⟨_, rfl⟩
            obtain ⟨d, hd0⟩ : ∃ d : Int, d = (e.down : Int) := ⟨_, rfl⟩
            rw [← hw0, ← hu0, ← hd0]
            have hnx : t ++ ({ data := #[UInt8.ofNat w.toNat] } : ByteArray) ++ bs (be 2 e.up) ++ bs (be 2 e.down) = bs (P1 ++ cbs (E.take (i + 1))) := by
              rw [ht, show ({ data := #[UInt8.ofNat w.toNat] } : ByteArray) = bs [UInt8.ofNat e.who] by rw [hw0, Int.toNat_natCast]; rfl, bs_append, bs_append, bs_append, hts, cbs_snoc]
              unfold Cn.bytes
              simp
            have k1 := @refFixed ro e.up 2 (by decide) (by decide) (by omega)
            have k2 := @refFixed ro e.down 2 (by decide) (by decide) (by omega)
            have w1 : IntKind.u64.wrap u = (e.up : Int) := by rw [hu0, u64w, Nat.mod_eq_of_lt (by omega)]
            have w2 : IntKind.u64.wrap d = (e.down : Int) := by rw [hd0, u64w, Nat.mod_eq_of_lt (by omega)]
            rw [← w1] at k1
            rw [← w2] at k2
            conv => whnf
            repeat' ((first | ((with_reducible refine y'g ?_ ?_); (· exact ⟨_, rfl⟩)) | (with_reducible refine y'5 ‹_› ?_) | (with_reducible refine And.intro ?_ ?_) | ((with_reducible refine y'n ?_ ?_); (· refine decide_eq_true ?_; simp only [ByteArray.size_append, bs_size, be_length, lit1]; omega)) | (refine Fn.frame [] (by rfl) (by exact trivial) (by rfl) (k1 ?_)) | (refine Fn.frame [] (by rfl) (by exact trivial) (by rfl) (k2 ?_)) | fail) <;> (conv => whnf))
            all_goals
              exact ⟨n - (i + 1), by omega, Into.weak [0, 1, 2, 3] [(1, .a (.ptr 3 0)), (3, .a (.str (t ++ ({ data := #[UInt8.ofNat w.toNat] } : ByteArray) ++ bs (be 2 e.up) ++ bs (be 2 e.down)))), (5, .a (.int .i64 ((i + 1 : Nat) : Int)))] [.cells fs 23 mk1, .cells rs 104 mk, .cells ss 21 mk3, .cells [.int .u8 z, .bool on, .slc 0 0 n1 c1, .slc 1 0 n cap, .slc 2 0 n3 c3] 57 false] ⟨i + 1, _, by omega, rfl, hnx, rfl, rfl⟩ ⟨rfl, rfl, congrArg (fun z => some (V.a (.int .i64 z))) hw, trivial⟩ ⟨ren_pl hf _ _ _, ren_pl hp _ _ _, ren_pl hs _ _ _, rfl, trivial⟩ (by simp [nodupb, baseb, Ob.okb, frmOk, V.okb, A.okb, hp.2, hf.2, hs.2] <;> decide)⟩
          · have d1 : decide ((i : Int) < (n : Int)) = false := decide_eq_false (by omega)
            rw [show i = n by omega, List.take_of_length_le (by omega)] at ht
            obtain ⟨P2, hP2⟩ : ∃ P, P = P1 ++ cbs E := ⟨_, rfl⟩
            rw [← hP2] at ht hK
            have hP2l : P2.length ≤ 200 := by rw [hP2, List.length_append, cbs_len]; omega
            conv => whnf
            repeat' ((first | (with_reducible refine y'b ‹_› ?_) | fail) <;> (conv => whnf))
            refine loopx_of (fun m F H => ∃ (i : Nat) (t : ByteArray), i ≤ n3 ∧ m = n3 - i ∧ t = bs (P2 ++ flat (L.take i)) ∧ F = [(1, .a (.ptr 3 0)), (3, .a (.str t)), (7, .a (.int .i64 i))] ∧ H = [.cells fs 23 mk1, .cells rs 104 mk, .cells ss 21 mk3, .cells [.int .u8 z, .bool on, .slc 0 0 n1 c1, .slc 1 0 n cap, .slc 2 0 n3 c3] 57 false]) n3 ?_ ?_
            · exact Into.weak [0, 1, 2, 3] [(1, .a (.ptr 3 0)), (3, .a (.str t)), (7, .a (.int .i64 (0 : Nat)))] [.cells fs 23 mk1, .cells rs 104 mk, .cells ss 21 mk3, .cells [.int .u8 z, .bool on, .slc 0 0 n1 c1, .slc 1 0 n cap, .slc 2 0 n3 c3] 57 false] ⟨0, _, Nat.zero_le _, rfl, by rw [List.take_zero, flat_nil, List.append_nil]; exact ht, rfl, rfl⟩ ⟨rfl, rfl, rfl, trivial⟩ ⟨ren_pl hf _ _ _, ren_pl hp _ _ _, ren_pl hs _ _ _, rfl, trivial⟩ (by simp [nodupb, baseb, Ob.okb, frmOk, V.okb, A.okb, hp.2, hf.2, hs.2] <;> decide)
            · rintro m F H ⟨i, t, hi, rfl, ht, rfl, rfl⟩
              have hw : IntKind.i64.wrap (↑i + 1) = ((i + 1 : Nat) : Int) := by rw [i64w (by omega) (by omega)]; rfl
              by_cases hin : i < n3
              · have d1 : decide ((i : Int) < (n3 : Int)) = true := decide_eq_true (by omega)
                have d2 : decide (0 ≤ (i : Int) ∧ (i : Int) < (n3 : Int)) = true := decide_eq_true (by omega)
                have htz : t.size ≤ 100000 := by
                  rw [ht, bs_size, List.length_append]
                  have := flat_len4 (L.take i)
                  rw [List.length_take] at this
                  omega
                obtain ⟨e, he⟩ : ∃ e, L[i]? = some e := ⟨_, List.getElem?_eq_getElem (by omega)⟩
                have g0 : ss[0 + (i : Int).toNat * Tryd.prog.types[21].size]? = some (.int .i32 (e : Int)) := by
                  rw [Int.toNat_natCast, s21, Nat.zero_add, Nat.mul_one]
                  exact i32s_get hss (by rw [List.getElem?_append_left (by omega)]; exact he)
                have hts : L.take (i + 1) = L.take i ++ [e] := by rw [List.take_add_one, he]; rfl
                have hnx : t ++ bs (enc e) = bs (P2 ++ flat (L.take (i + 1))) := by rw [ht, bs_append, hts, flat_append, flat_one, List.append_assoc]
                have he4 := enc_le4 e
                conv => whnf
                repeat' ((first | (with_reducible first | refine y'b ‹_› ?_ | refine y'3 ?_) | ((with_reducible apply y'o); (· first | exact g0 | exact g1 | exact g2)) | fail) <;> (conv => whnf))
                refine Fn.frame [] (by rfl) (by exact trivial) (by rfl) (coded1 e (hR e (List.mem_of_getElem? he)) ?_)
                conv => whnf
                repeat' ((first | (with_reducible refine y'5 ‹_› ?_) | ((with_reducible refine y'n ?_ ?_); (· refine decide_eq_true ?_; first | (rw [bs_size, be_length]; omega) | (rw [bs_size]; omega))) | fail) <;> (conv => whnf))
                exact ⟨n3 - (i + 1), by omega, Into.weak [0, 1, 2, 3] [(1, .a (.ptr 3 0)), (3, .a (.str (t ++ bs (enc e)))), (7, .a (.int .i64 ((i + 1 : Nat) : Int)))] [.cells fs 23 mk1, .cells rs 104 mk, .cells ss 21 mk3, .cells [.int .u8 z, .bool on, .slc 0 0 n1 c1, .slc 1 0 n cap, .slc 2 0 n3 c3] 57 false] ⟨i + 1, _, by omega, rfl, hnx, rfl, rfl⟩ ⟨rfl, rfl, congrArg (fun z => some (V.a (.int .i64 z))) hw, trivial⟩ ⟨ren_pl hf _ _ _, ren_pl hp _ _ _, ren_pl hs _ _ _, rfl, trivial⟩ (by simp [nodupb, baseb, Ob.okb, frmOk, V.okb, A.okb, hp.2, hf.2, hs.2] <;> decide)⟩
              · have d1 : decide ((i : Int) < (n3 : Int)) = false := decide_eq_false (by omega)
                rw [show i = n3 by omega, List.take_of_length_le (by omega)] at ht
                conv => whnf
                repeat' ((first | (with_reducible refine y'b ‹_› ?_) | fail) <;> (conv => whnf))
                rw [ht]
                exact keepOf (v₀ := .a (.str (bs (P2 ++ flat L)))) [.cells fs 23 mk1, .cells rs 104 mk, .cells ss 21 mk3] [0, 1, 2] rfl ⟨ren_pl hf _ _ _, ren_pl hp _ _ _, ren_pl hs _ _ _, trivial⟩ (by simp [nodupb, baseb, Ob.okb, frmOk, V.okb, A.okb, hp.2, hf.2, hs.2] <;> decide) hK
end
end Go.Proofs.YtimddbgnaeeggaaDoor.KD
namespace Go.Proofs.YtimddbgnaeeggaaDoor.KD
open Go.Eng
set_option maxRecDepth 100000
/-- Above, by the reference. -/
@[irreducible] def abR (x y : Nat) : Bool := if isNan y then false else if isNan x then true else (fGtK .f64 x y || (fEqK .f64 x y && (!sgn x && sgn y)))
theorem abR_rk {x y : Nat} (cx : Can x) (cy : Can y) : abR x y = decide (rk y < rk x) := by
  have hx := cx.1
  have hy := cy.1
  unfold abR
  cases hyn : isNan y with
  | true =>
    rw [if_pos rfl, rk_nan hyn]
    cases hxn : isNan x with
    | true => rw [rk_nan hxn]; decide
    | false =>
      have := rk_lt_top hx hxn
      exact (decide_eq_false (by omega)).symm
  | false =>
    rw [if_neg (by decide)]
    cases hxn : isNan x with
    | true =>
      have := rk_lt_top hy hyn
      rw [if_pos rfl, rk_nan hxn, decide_eq_true (by omega)]
    | false =>
      rw [if_neg (by decide), fGt_lt, fLt_key, fEq_key]
      rcases num_rung hx hxn with ⟨h1, h2, h3, h4⟩ | ⟨h1, h2, h3, h4⟩ <;> rcases num_rung hy hyn with ⟨k1, k2, k3, k4⟩ | ⟨k1, k2, k3, k4⟩
      · rw [fkey_p hxn h2 h3, fkey_p hyn k2 k3, rk_pos hxn h1, rk_pos hyn k1, h2, k2]
        simp only [Bool.not_false, Bool.and_false, Bool.or_false]
        exact decide_eq_decide.2 (by omega)
      · rw [fkey_p hxn h2 h3, fkey_m hyn k2 k3, rk_pos hxn h1, rk_neg hyn k1, h2, k2]
        simp only [Bool.not_false, Bool.and_true]
        rw [← Bool.decide_or]
        exact decide_eq_decide.2 (by omega)
      · rw [fkey_m hxn h2 h3, fkey_p hyn k2 k3, rk_neg hxn h1, rk_pos hyn k1, h2, k2]
        simp only [Bool.and_false, Bool.or_false]
        exact decide_eq_decide.2 (by omega)
      · rw [fkey_m hxn h2 h3, fkey_m hyn k2 k3, rk_neg hxn h1, rk_neg hyn k1, h2, k2]
        simp only [Bool.not_true, Bool.false_and, Bool.and_false, Bool.or_false]
        exact decide_eq_decide.2 (by omega)
/-- What both counts make, up to a replica. -/
def mxD (E F : List Cn) (q : Nat) : Cn := ⟨q, max (cnt E q).up (cnt F q).up, max (cnt E q).down (cnt F q).down⟩
def bE (E F : List Cn) : Nat → List Cn
  | 0 => []
  | i + 1 => bE E F i ++ (if (mxD E F (i + 1)).up = 0 ∧ (mxD E F (i + 1)).down = 0 then [] else [mxD E F (i + 1)])
theorem bE_len (E F : List Cn) (i : Nat) : (bE E F i).length ≤ i := by
  induction i with
  | zero => exact Nat.le_refl 0
  | succ i ih =>
    show (bE E F i ++ _).length ≤ _
    rw [List.length_append]
    split <;> simp <;> omega
theorem f64_in {cs : List A} {L y : List Nat} {v n S : Nat} (hcs : cs = f64s (L ++ y)) (hn : n = L.length) (hS : S = 1) (hy : 0 < y.length) :
    storeL cs (0 + n * S) (List.drop 0 (List.take (0 + 1 * S) [.flt .f64 v])) = f64s (L ++ [v] ++ y.tail) := by
  subst hS hcs hn
  simp only [Nat.zero_add, Nat.mul_one, List.take_succ_cons, List.take_zero, List.drop_zero]
  cases y with
  | nil => simp at hy
  | cons a y =>
    unfold f64s
    simp [storeL]
theorem f64_new {cs : List A} {L y : List Nat} {v n S c : Nat} {z : A} (hcs : cs = f64s (L ++ y)) (hn : n = L.length) (hS : S = 1) (hz : z = .flt .f64 0) :
    List.drop 0 (List.take (0 + n * S) cs) ++ List.drop 0 (List.take (0 + 1 * S) [.flt .f64 v]) ++ repl [z] ((c - (n + 1)) * S) = f64s (L ++ [v] ++ List.replicate (c - (n + 1)) 0) := by
  subst hS hcs hn hz
  simp only [Nat.zero_add, Nat.mul_one, List.take_succ_cons, List.take_zero, List.drop_zero]
  unfold f64s
  simp [repl]
section
variable {ro : Addr → A → Prop}
set_option maxHeartbeats 400000 in
theorem signbitR (x : Nat) (hx : x < 18446744073709551616) {K : V → Hp → Prop} (hK : K (.a (.bool (sgn x))) []) : Go.Eng.Fn Tryd.prog ro 46 [.a (.flt .f64 x)] [] K := by
  refine Fn.weak ?_
  refine Fn.of_code (gOf []) Tryd.func46 rfl (Nat.le_of_ble_eq_true rfl) ?_
  conv => whnf
  repeat' ((first | ((refine ext_bits (by rfl) bits_n bits_f ?_)) | fail) <;> (conv => whnf))
  exact keepOf (v₀ := .a (.bool (sgn x))) [] [] (congrArg (fun b => V.a (.bool b)) (i64s hx)) trivial rfl hK
set_option maxHeartbeats 2000000 in
theorem aboveR (x y : Nat) (hx : x < 18446744073709551616) (hy : y < 18446744073709551616) {K : V → Hp → Prop} (hK : K (.a (.bool (abR x y))) []) : Go.Eng.Fn Tryd.prog ro 114 [.a (.flt .f64 x), .a (.flt .f64 y)] [] K := by
  have ex : (!fEqK .f64 x x) = isNan x := by rw [fEq_self]; simp
  have ey : (!fEqK .f64 y y) = isNan y := by rw [fEq_self]; simp
  have g0 := True.intro
  have g1 := True.intro
  refine Fn.weak ?_
  refine Fn.of_code (gOf []) Tryd.func114 rfl (Nat.le_of_ble_eq_true rfl) ?_
  cases hyn : isNan y with
  | true =>
    rw [hyn] at ey
    have e : abR x y = false := by unfold abR; rw [if_pos hyn]
    rw [e] at hK
    conv => whnf
    repeat' ((first | (with_reducible refine y'b ‹_› ?_) | fail) <;> (conv => whnf))
    exact keepOf (v₀ := .a (.bool false)) [] [] rfl trivial rfl hK
  | false =>
    rw [hyn] at ey
    cases hxn : isNan x with
    | true =>
      rw [hxn] at ex
      have e : abR x y = true := by unfold abR; rw [if_neg (by rw [hyn]; decide), if_pos hxn]
      rw [e] at hK
      conv => whnf
      repeat' ((first | (with_reducible refine y'b ‹_› ?_) | fail) <;> (conv => whnf))
      exact keepOf (v₀ := .a (.bool true)) [] [] rfl trivial rfl hK
    | false =>
      rw [hxn] at ex
      have e : abR x y = (fGtK .f64 x y || (fEqK .f64 x y && (!sgn x && sgn y))) := by unfold abR; rw [if_neg (by rw [hyn]; decide), if_neg (by rw [hxn]; decide)]
      cases h1 : fGtK .f64 x y with
      | true =>
        rw [e, h1] at hK
        conv => whnf
        repeat' ((first | (with_reducible refine y'b ‹_› ?_) | fail) <;> (conv => whnf))
        exact keepOf (v₀ := .a (.bool true)) [] [] rfl trivial rfl hK
      | false =>
        cases h2 : fEqK .f64 x y with
        | false =>
          rw [e, h1, h2] at hK
          conv => whnf
          repeat' ((first | (with_reducible refine y'b ‹_› ?_) | fail) <;> (conv => whnf))
          exact keepOf (v₀ := .a (.bool false)) [] [] rfl trivial rfl hK
        | true =>
          rw [e, h1, h2] at hK
          conv => whnf
          repeat' ((first | (with_reducible refine y'b ‹_› ?_) | fail) <;> (conv => whnf))
          refine Fn.frame [] (by rfl) (by exact trivial) (by rfl) (signbitR x hx ?_)
          cases h4 : sgn x with
          | true =>
            rw [h4] at hK
            conv => whnf
            repeat' ((first | (with_reducible refine y'b ‹_› ?_) | fail) <;> (conv => whnf))
            exact keepOf (v₀ := .a (.bool false)) [] [] rfl trivial rfl hK
          | false =>
            rw [h4] at hK
            conv => whnf
            repeat' ((first | (with_reducible refine y'b ‹_› ?_) | fail) <;> (conv => whnf))
            refine Fn.frame [] (by rfl) (by exact trivial) (by rfl) (signbitR y hy ?_)
            cases h5 : sgn y with
            | true =>
              rw [h5] at hK
              conv => whnf
              repeat' ((first | (with_reducible refine y'b ‹_› ?_) | fail) <;> (conv => whnf))
              exact keepOf (v₀ := .a (.bool true)) [] [] rfl trivial rfl hK
            | false =>
              rw [h5] at hK
              conv => whnf
              repeat' ((first | (with_reducible refine y'b ‹_› ?_) | fail) <;> (conv => whnf))
              exact keepOf (v₀ := .a (.bool false)) [] [] rfl trivial rfl hK
set_option maxHeartbeats 1000000 in
theorem greaterR (x y : Nat) (cx : Can x) (cy : Can y) {K : V → Hp → Prop} (hK : K (.a (.flt .f64 (gt x y))) []) : Go.Eng.Fn Tryd.prog ro 90 [.a (.flt .f64 x), .a (.flt .f64 y)] [] K := by
  have k := @aboveR ro x y cx.1 cy.1
  rw [abR_rk cx cy] at k
  unfold gt at hK
  have g0 := True.intro
  have g1 := True.intro
  refine Fn.weak ?_
  refine Fn.of_code (gOf []) Tryd.func90 rfl (Nat.le_of_ble_eq_true rfl) ?_
  by_cases h : rk y < rk x
  · rw [if_pos h] at hK
    rw [decide_eq_true h] at k
    conv => whnf
    skip
    refine Fn.frame [] (by rfl) (by exact trivial) (by rfl) (k ?_)
    conv => whnf
    skip
    exact keepOf (v₀ := .a (.flt .f64 x)) [] [] rfl trivial rfl hK
  · rw [if_neg h] at hK
    rw [decide_eq_false h] at k
    conv => whnf
    skip
    refine Fn.frame [] (by rfl) (by exact trivial) (by rfl) (k ?_)
    conv => whnf
    skip
    exact keepOf (v₀ := .a (.flt .f64 y)) [] [] rfl trivial rfl hK
end
end Go.Proofs.YtimddbgnaeeggaaDoor.KD
namespace Go.Proofs.YtimddbgnaeeggaaDoor.KD
open Go.Eng
set_option maxRecDepth 100000
theorem f64s_len (L : List Nat) : (f64s L).length = L.length := by unfold f64s; simp
/-- What a thing's rows hold. -/
structure T3 (b : Nat) (v : List Nat) (E : List Cn) (L : List Nat) (fs cs rs : List A) (n1 n2 n3 : Nat) : Prop where
  f : ∃ Y, fs = f64s (v ++ Y)
  c : ∃ Y, cs = cts (E ++ Y)
  r : ∃ Y, rs = i32s (L ++ Y)
  h1 : n1 = v.length
  h2 : n2 = E.length
  h3 : n3 = L.length
  few : v.length ≤ 2 ∧ E.length ≤ 9 ∧ L.length ≤ b
  can : ∀ x ∈ v, Can x
  lt : ∀ e ∈ E, e.who < 256 ∧ e.up < 65536 ∧ e.down < 65536
  run : ∀ r ∈ L, r < 1114112
theorem u8w3 {x : Nat} (h : x < 256) : IntKind.u8.wrap (x : Int) = (x : Int) := by
  simp only [IntKind.wrap, IntKind.signed, IntKind.bits]
  simp
  omega
theorem gtz_can : ∀ (a b : List Nat), (∀ x ∈ a, Can x) → (∀ x ∈ b, Can x) → ∀ x ∈ List.zipWith gt a b, Can x
  | [], _, _, _ => by intro x hx; simp at hx
  | _ :: _, [], _, _ => by intro x hx; simp at hx
  | a :: l, b :: m, ha, hb => by
    intro x hx
    rw [List.zipWith_cons_cons] at hx
    rcases List.mem_cons.1 hx with rfl | hx
    · unfold gt; split
      · exact ha a (by simp)
      · exact hb b (by simp)
    · exact gtz_can l m (fun x hx => ha x (by simp [hx])) (fun x hx => hb x (by simp [hx])) x hx
theorem bE_lt {E F : List Cn} (hE : ∀ e ∈ E, e.who < 256 ∧ e.up < 65536 ∧ e.down < 65536) (hF : ∀ e ∈ F, e.who < 256 ∧ e.up < 65536 ∧ e.down < 65536) : ∀ i, i ≤ 5 → ∀ e ∈ bE E F i, e.who < 256 ∧ e.up < 65536 ∧ e.down < 65536 := by
  intro i
  induction i with
  | zero => intro _ e he; cases he
  | succ i ih =>
    intro hi e he
    have he' : e ∈ bE E F i ++ (if (mxD E F (i + 1)).up = 0 ∧ (mxD E F (i + 1)).down = 0 then [] else [mxD E F (i + 1)]) := he
    rcases List.mem_append.1 he' with he | he
    · exact ih (by omega) e he
    · split at he
      · cases he
      · rw [List.mem_singleton.1 he]
        have h1 := cnt_lt (r := i + 1) hE
        have h2 := cnt_lt (r := i + 1) hF
        unfold mxD
        exact ⟨by show i + 1 < 256; omega, by show max _ _ < _; omega, by show max _ _ < _; omega⟩
section
variable {ro : Addr → A → Prop}
set_option maxHeartbeats 8000000 in
theorem both57 (k k' : Int) (ona onb : Bool) (va vb : List Nat) (Ea Eb : List Cn) (La Lb : List Nat) (fa ca ra fb cb rb : List A) (p1 q1 p2 q2 p3 q3 r1 s1 r2 s2 r3 s3 : Nat) (a1 a2 a3 b1 b2 b3 : Bool)
    (hA : T3 100 va Ea La fa ca ra p1 p2 p3) (hB : T3 100 vb Eb Lb fb cb rb r1 r2 r3) (hvv : va.length = vb.length) {K : V → Hp → Prop}
    (hK : ∀ fs cs rs n1 c1 n2 c2 n3 c3 m1 m2 m3, T3 200 (List.zipWith gt va vb) (bE Ea Eb 5) (insL (La ++ Lb)) fs cs rs n1 n2 n3 → K (.g [.int .u8 k, .bool (ona || onb), .slc 6 0 n1 c1, .slc 7 0 n2 c2, .slc 8 0 n3 c3]) [.cells fa 23 a1, .cells ca 104 a2, .cells ra 21 a3, .cells fb 23 b1, .cells cb 104 b2, .cells rb 21 b3, .cells fs 23 m1, .cells cs 104 m2, .cells rs 21 m3]) :
    Go.Eng.Fn Tryd.prog ro 57 [.g [.int .u8 k, .bool ona, .slc 0 0 p1 q1, .slc 1 0 p2 q2, .slc 2 0 p3 q3], .g [.int .u8 k', .bool onb, .slc 3 0 r1 s1, .slc 4 0 r2 s2, .slc 5 0 r3 s3]] [.cells fa 23 a1, .cells ca 104 a2, .cells ra 21 a3, .cells fb 23 b1, .cells cb 104 b2, .cells rb 21 b3] K := by
  obtain ⟨Yfa, efa⟩ := hA.f
  obtain ⟨Yca, eca⟩ := hA.c
  obtain ⟨Yra, era⟩ := hA.r
  obtain ⟨Yfb, efb⟩ := hB.f
  obtain ⟨Ycb, ecb⟩ := hB.c
  obtain ⟨Yrb, erb⟩ := hB.r
  have hfa := f64s_pl efa
  have hca := cts_pl eca
  have hra := i32s_pl era
  have hfb := f64s_pl efb
  have hcb := cts_pl ecb
  have hrb := i32s_pl erb
  have fA := hA.few
  have fB := hB.few
  have zA := hA.h1
  have zB := hB.h1
  obtain ⟨o, ho⟩ : ∃ o, o = (ona || onb) := ⟨_, rfl⟩
  rw [← ho] at hK
  have g0 := True.intro
  have g1 := True.intro
  refine Fn.weak ?_
  refine Fn.of 6 (cutAt [2, 12, 15, 16, 17] h57) rfl Tryd.func57 rfl (Nat.le_of_ble_eq_true rfl) ?_
  rcases Bool.eq_false_or_eq_true ona with hoa | hoa
  case' inl =>
    have ho2 : o = true := by rw [ho, hoa]; rfl
    conv => whnf
    repeat' ((first | (with_reducible refine y'b ‹_› ?_) | (with_reducible refine y'5 ‹_› ?_) | fail) <;> (conv => whnf))
  case' inr =>
    have ho2 : o = onb := by rw [ho, hoa]; rfl
    conv => whnf
    repeat' ((first | (with_reducible refine y'b ‹_› ?_) | (with_reducible refine y'5 ‹_› ?_) | fail) <;> (conv => whnf))
  all_goals
    refine cutx_of (fun F H => F = [(2, .a (.ptr 6 0)), (3, .a (.ptr 7 0)), (4, .a (.ptr 8 0)), (5, .a (.ptr 9 0))] ∧ H = [.cells fa 23 a1, .cells ca 104 a2, .cells ra 21 a3, .cells fb 23 b1, .cells cb 104 b2, .cells rb 21 b3, .cells [.int .u8 k, .bool ona, .slc 0 0 p1 q1, .slc 1 0 p2 q2, .slc 2 0 p3 q3] 57 false, .cells [.int .u8 k', .bool onb, .slc 3 0 r1 s1, .slc 4 0 r2 s2, .slc 5 0 r3 s3] 57 false, .cells [.int .u8 0, .bool false, .nils, .nils, .nils] 57 false, .cells [.int .u8 k, .bool o, .nils, .nils, .nils] 57 false]) ?_ ?_
    · exact Into.weak [0, 1, 2, 3, 4, 5, 6, 7, 8, 9] [(2, .a (.ptr 6 0)), (3, .a (.ptr 7 0)), (4, .a (.ptr 8 0)), (5, .a (.ptr 9 0))] [.cells fa 23 a1, .cells ca 104 a2, .cells ra 21 a3, .cells fb 23 b1, .cells cb 104 b2, .cells rb 21 b3, .cells [.int .u8 k, .bool ona, .slc 0 0 p1 q1, .slc 1 0 p2 q2, .slc 2 0 p3 q3] 57 false, .cells [.int .u8 k', .bool onb, .slc 3 0 r1 s1, .slc 4 0 r2 s2, .slc 5 0 r3 s3] 57 false, .cells [.int .u8 0, .bool false, .nils, .nils, .nils] 57 false, .cells [.int .u8 k, .bool o, .nils, .nils, .nils] 57 false] ⟨rfl, rfl⟩ ⟨rfl, rfl, rfl, rfl, trivial⟩ ⟨ren_pl hfa _ _ _, ren_pl hca _ _ _, ren_pl hra _ _ _, ren_pl hfb _ _ _, ren_pl hcb _ _ _, ren_pl hrb _ _ _, rfl, rfl, rfl, (by rw [ho2]; rfl), trivial⟩ (by simp [Ob.okb, frmOk, V.okb, A.okb, hfa.2, hca.2, hra.2, hfb.2, hcb.2, hrb.2] <;> decide)
    rintro F H ⟨rfl, rfl⟩
    clear hoa ho2
    conv => whnf
    skip
    refine loopx_of (fun y F H => ∃ (i m c : Nat) (bk : Bool) (Y : List Nat) (fs : List A), i ≤ p1 ∧ y = p1 - i ∧ fs = f64s ((List.zipWith gt va vb).take i ++ Y) ∧ m = i ∧ c = m + Y.length ∧ F = [(2, .a (.ptr 6 0)), (3, .a (.ptr 7 0)), (4, .a (.ptr 8 0)), (5, .a (.ptr 9 0)), (6, .a (.int .i64 i))] ∧ H = [.cells fa 23 a1, .cells ca 104 a2, .cells ra 21 a3, .cells fb 23 b1, .cells cb 104 b2, .cells rb 21 b3, .cells [.int .u8 k, .bool ona, .slc 0 0 p1 q1, .slc 1 0 p2 q2, .slc 2 0 p3 q3] 57 false, .cells [.int .u8 k', .bool onb, .slc 3 0 r1 s1, .slc 4 0 r2 s2, .slc 5 0 r3 s3] 57 false, .cells [.int .u8 0, .bool false, .nils, .nils, .nils] 57 false, .cells [.int .u8 k, .bool o, .slc 10 0 m c, .slc 11 0 0 0, .nils] 57 false, .cells fs 23 bk, .cells [] 104 false]) p1 ?_ ?_
    · refine Into.ghost 10 [(2, .a (.ptr 6 0)), (3, .a (.ptr 7 0)), (4, .a (.ptr 8 0)), (5, .a (.ptr 9 0)), (6, .a (.int .i64 (0 : Nat)))] [.cells fa 23 a1, .cells ca 104 a2, .cells ra 21 a3, .cells fb 23 b1, .cells cb 104 b2, .cells rb 21 b3, .cells [.int .u8 k, .bool ona, .slc 0 0 p1 q1, .slc 1 0 p2 q2, .slc 2 0 p3 q3] 57 false, .cells [.int .u8 k', .bool onb, .slc 3 0 r1 s1, .slc 4 0 r2 s2, .slc 5 0 r3 s3] 57 false, .cells [.int .u8 0, .bool false, .nils, .nils, .nils] 57 false, .cells [.int .u8 k, .bool o, .slc 10 0 0 0, .slc 11 0 0 0, .nils] 57 false, .cells [] 23 false, .cells [] 104 false] rfl ⟨rfl, rfl, rfl, rfl, rfl, trivial⟩ ⟨ung_pl hfa.1 _ _ _, ung_pl hca.1 _ _ _, ung_pl hra.1 _ _ _, ung_pl hfb.1 _ _ _, ung_pl hcb.1 _ _ _, ung_pl hrb.1 _ _ _, rfl, rfl, rfl, rfl, rfl, rfl, trivial⟩ (by simp [Ob.okb, frmOk, V.okb, A.okb, hfa.2, hca.2, hra.2, hfb.2, hcb.2, hrb.2] <;> decide) ?_
      exact Into.weak [0, 1, 2, 3, 4, 5, 6, 7, 8, 9, 10, 11] _ [.cells fa 23 a1, .cells ca 104 a2, .cells ra 21 a3, .cells fb 23 b1, .cells cb 104 b2, .cells rb 21 b3, .cells [.int .u8 k, .bool ona, .slc 0 0 p1 q1, .slc 1 0 p2 q2, .slc 2 0 p3 q3] 57 false, .cells [.int .u8 k', .bool onb, .slc 3 0 r1 s1, .slc 4 0 r2 s2, .slc 5 0 r3 s3] 57 false, .cells [.int .u8 0, .bool false, .nils, .nils, .nils] 57 false, .cells [.int .u8 k, .bool o, .slc 10 0 0 0, .slc 11 0 0 0, .nils] 57 false, .cells [] 23 false, .cells [] 104 false] ⟨0, 0, 0, false, [], [], Nat.zero_le _, rfl, f64s_nil.symm, rfl, rfl, rfl, rfl⟩ ⟨rfl, rfl, rfl, rfl, rfl, trivial⟩ ⟨ren_pl hfa _ _ _, ren_pl hca _ _ _, ren_pl hra _ _ _, ren_pl hfb _ _ _, ren_pl hcb _ _ _, ren_pl hrb _ _ _, rfl, rfl, rfl, rfl, rfl, rfl, trivial⟩ (by simp [Ob.okb, frmOk, V.okb, A.okb, hfa.2, hca.2, hra.2, hfb.2, hcb.2, hrb.2] <;> decide)
    · rintro y F H ⟨i, m, c, bk, Y, fs, hi, rfl, hfs, rfl, hc, rfl, rfl⟩
      have hfp := f64s_pl hfs
      have hzl : (List.zipWith gt va vb).length = p1 := by rw [List.length_zipWith]; omega
      have hfl : fs.length = c := by rw [hfs, f64s_len, List.length_append, List.length_take, hc]; omega
      have hw : IntKind.i64.wrap (↑m + 1) = ((m + 1 : Nat) : Int) := by rw [i64w (by omega) (by omega)]; rfl
      by_cases hin : m < p1
      · have d1 : decide ((m : Int) < (p1 : Int)) = true := decide_eq_true (by omega)
        have d2 : decide (0 ≤ (m : Int) ∧ (m : Int) < (p1 : Int)) = true := decide_eq_true (by omega)
        have d3 : decide (0 ≤ (m : Int) ∧ (m : Int) < (r1 : Int)) = true := decide_eq_true (by omega)
        obtain ⟨x, hx⟩ : ∃ x, va[m]? = some x := ⟨_, List.getElem?_eq_getElem (by omega)⟩
        obtain ⟨y, hy⟩ : ∃ y, vb[m]? = some y := ⟨_, List.getElem?_eq_getElem (by omega)⟩
        clear g0 g1
        have g0 : fa[0 + (m : Int).toNat * Tryd.prog.types[23].size]? = some (.flt .f64 x) := by
          rw [Int.toNat_natCast, s23, Nat.zero_add, Nat.mul_one]
          exact f64s_get efa (by rw [List.getElem?_append_left (by omega)]; exact hx)
        have g1 : fb[0 + (m : Int).toNat * Tryd.prog.types[23].size]? = some (.flt .f64 y) := by
          rw [Int.toNat_natCast, s23, Nat.zero_add, Nat.mul_one]
          exact f64s_get efb (by rw [List.getElem?_append_left (by omega)]; exact hy)
        have hts : (List.zipWith gt va vb).take (m + 1) = (List.zipWith gt va vb).take m ++ [gt x y] := by
          rw [List.take_add_one, List.getElem?_zipWith, hx, hy]; rfl
        conv => whnf
        repeat' ((first | ((with_reducible refine y'r ?_ ?_); (· decide +kernel)) | ((with_reducible refine y'g ?_ ?_); (· exact ⟨_, rfl⟩)) | (with_reducible first | refine y'b ‹_› ?_ | refine y'3 ?_) | ((with_reducible apply y'o); (· first | exact g0 | exact g1)) | fail) <;> (conv => whnf))
        refine Fn.frame [] (by rfl) (by exact trivial) (by rfl) (greaterR x y (hA.can x (List.mem_of_getElem? hx)) (hB.can y (List.mem_of_getElem? hy)) ?_)
        conv => whnf
        repeat' ((first | ((with_reducible refine y'g ?_ ?_); (· exact ⟨_, rfl⟩)) | (with_reducible refine y'5 ‹_› ?_) | fail) <;> (conv => whnf))
        refine y'c (fun h => ?_) (fun h => ?_)
        · have h' := of_decide_eq_true h
          conv => whnf
          refine y'n (decide_eq_true (by simp [s23]; omega)) ?_
          conv => whnf
          repeat' ((first | (with_reducible refine y'5 ‹_› ?_) | fail) <;> (conv => whnf))
          refine y'f (f64_in hfs (by rw [List.length_take]; omega) s23 (by omega)) (fun xt hxt => ?_)
          have hxp := f64s_pl hxt
          conv => whnf
          repeat' ((first | ((with_reducible refine y'g ?_ ?_); (· exact ⟨_, rfl⟩)) | (with_reducible refine y'5 ‹_› ?_) | fail) <;> (conv => whnf))
          exact ⟨p1 - (m + 1), by omega, Into.weak [0, 1, 2, 3, 4, 5, 6, 7, 8, 9, 10, 11] [(2, .a (.ptr 6 0)), (3, .a (.ptr 7 0)), (4, .a (.ptr 8 0)), (5, .a (.ptr 9 0)), (6, .a (.int .i64 ((m + 1 : Nat) : Int)))] [.cells fa 23 a1, .cells ca 104 a2, .cells ra 21 a3, .cells fb 23 b1, .cells cb 104 b2, .cells rb 21 b3, .cells [.int .u8 k, .bool ona, .slc 0 0 p1 q1, .slc 1 0 p2 q2, .slc 2 0 p3 q3] 57 false, .cells [.int .u8 k', .bool onb, .slc 3 0 r1 s1, .slc 4 0 r2 s2, .slc 5 0 r3 s3] 57 false, .cells [.int .u8 0, .bool false, .nils, .nils, .nils] 57 false, .cells [.int .u8 k, .bool o, .slc 10 0 (m + 1) c, .slc 11 0 0 0, .nils] 57 false, .cells xt 23 bk, .cells [] 104 false] ⟨m + 1, m + 1, c, bk, Y.tail, xt, by omega, rfl, by rw [hts]; exact hxt, rfl, by rw [List.length_tail]; omega, rfl, rfl⟩ ⟨rfl, rfl, rfl, rfl, congrArg (fun z => some (V.a (.int .i64 z))) hw, trivial⟩ ⟨ren_pl hfa _ _ _, ren_pl hca _ _ _, ren_pl hra _ _ _, ren_pl hfb _ _ _, ren_pl hcb _ _ _, ren_pl hrb _ _ _, rfl, rfl, rfl, rfl, ren_pl hxp _ _ _, rfl, trivial⟩ (by simp [Ob.okb, frmOk, V.okb, A.okb, hfa.2, hca.2, hra.2, hfb.2, hcb.2, hrb.2, hxp.2] <;> decide)⟩
        · have h' := of_decide_eq_false h
          conv => whnf
          refine y'n (decide_eq_true (by simp [s23, b23]; omega)) ?_
          intro cap' hcap'
          conv => whnf
          repeat' ((first | (with_reducible refine y'5 ‹_› ?_) | fail) <;> (conv => whnf))
          refine y'f (f64_new (c := cap') hfs (by rw [List.length_take]; omega) s23 rfl) (fun xt hxt => ?_)
          have hxp := f64s_pl hxt
          conv => whnf
          repeat' ((first | ((with_reducible refine y'g ?_ ?_); (· exact ⟨_, rfl⟩)) | (with_reducible refine y'5 ‹_› ?_) | fail) <;> (conv => whnf))
          exact ⟨p1 - (m + 1), by omega, Into.weak [0, 1, 2, 3, 4, 5, 6, 7, 8, 9, 13, 11] [(2, .a (.ptr 6 0)), (3, .a (.ptr 7 0)), (4, .a (.ptr 8 0)), (5, .a (.ptr 9 0)), (6, .a (.int .i64 ((m + 1 : Nat) : Int)))] [.cells fa 23 a1, .cells ca 104 a2, .cells ra 21 a3, .cells fb 23 b1, .cells cb 104 b2, .cells rb 21 b3, .cells [.int .u8 k, .bool ona, .slc 0 0 p1 q1, .slc 1 0 p2 q2, .slc 2 0 p3 q3] 57 false, .cells [.int .u8 k', .bool onb, .slc 3 0 r1 s1, .slc 4 0 r2 s2, .slc 5 0 r3 s3] 57 false, .cells [.int .u8 0, .bool false, .nils, .nils, .nils] 57 false, .cells [.int .u8 k, .bool o, .slc 10 0 (m + 1) cap', .slc 11 0 0 0, .nils] 57 false, .cells xt 23 false, .cells [] 104 false] ⟨m + 1, m + 1, cap', false, List.replicate (cap' - (m + 1)) 0, xt, by omega, rfl, by rw [hts]; exact hxt, rfl, by rw [List.length_replicate]; omega, rfl, rfl⟩ ⟨rfl, rfl, rfl, rfl, congrArg (fun z => some (V.a (.int .i64 z))) hw, trivial⟩ ⟨ren_pl hfa _ _ _, ren_pl hca _ _ _, ren_pl hra _ _ _, ren_pl hfb _ _ _, ren_pl hcb _ _ _, ren_pl hrb _ _ _, rfl, rfl, rfl, rfl, ren_pl hxp _ _ _, rfl, trivial⟩ (by simp [Ob.okb, frmOk, V.okb, A.okb, hfa.2, hca.2, hra.2, hfb.2, hcb.2, hrb.2, hxp.2] <;> decide)⟩
      · have d1 : decide ((m : Int) < (p1 : Int)) = false := decide_eq_false (by omega)
        rw [show m = p1 by omega, List.take_of_length_le (by omega)] at hfs
        have hmz : m = (List.zipWith gt va vb).length := by omega
        clear hw hi hin
        conv => whnf
        repeat' ((first | (with_reducible refine y'b ‹_› ?_) | fail) <;> (conv => whnf))
        refine loopx_of (fun y F H => ∃ (i m2 c2 : Nat) (k2 : Bool) (X : List Cn) (xs : List A), i ≤ 5 ∧ y = 5 - i ∧ xs = cts (bE Ea Eb i ++ X) ∧ m2 = (bE Ea Eb i).length ∧ c2 = m2 + X.length ∧ F = [(2, .a (.ptr 6 0)), (3, .a (.ptr 7 0)), (4, .a (.ptr 8 0)), (5, .a (.ptr 9 0)), (7, .a (.int .u8 ((i + 1 : Nat) : Int)))] ∧ H = [.cells fa 23 a1, .cells ca 104 a2, .cells ra 21 a3, .cells fb 23 b1, .cells cb 104 b2, .cells rb 21 b3, .cells [.int .u8 k, .bool ona, .slc 0 0 p1 q1, .slc 1 0 p2 q2, .slc 2 0 p3 q3] 57 false, .cells [.int .u8 k', .bool onb, .slc 3 0 r1 s1, .slc 4 0 r2 s2, .slc 5 0 r3 s3] 57 false, .cells [.int .u8 0, .bool false, .nils, .nils, .nils] 57 false, .cells [.int .u8 k, .bool o, .slc 10 0 m c, .slc 11 0 m2 c2, .nils] 57 false, .cells fs 23 bk, .cells xs 104 k2]) 5 ?_ ?_
        · exact Into.weak [0, 1, 2, 3, 4, 5, 6, 7, 8, 9, 10, 11] [(2, .a (.ptr 6 0)), (3, .a (.ptr 7 0)), (4, .a (.ptr 8 0)), (5, .a (.ptr 9 0)), (7, .a (.int .u8 ((0 + 1 : Nat) : Int)))] [.cells fa 23 a1, .cells ca 104 a2, .cells ra 21 a3, .cells fb 23 b1, .cells cb 104 b2, .cells rb 21 b3, .cells [.int .u8 k, .bool ona, .slc 0 0 p1 q1, .slc 1 0 p2 q2, .slc 2 0 p3 q3] 57 false, .cells [.int .u8 k', .bool onb, .slc 3 0 r1 s1, .slc 4 0 r2 s2, .slc 5 0 r3 s3] 57 false, .cells [.int .u8 0, .bool false, .nils, .nils, .nils] 57 false, .cells [.int .u8 k, .bool o, .slc 10 0 m c, .slc 11 0 0 0, .nils] 57 false, .cells fs 23 bk, .cells [] 104 false] ⟨0, 0, 0, false, [], [], Nat.zero_le _, rfl, (by show [] = cts ([] ++ []); rw [List.append_nil, cts_nil]), rfl, rfl, rfl, rfl⟩ ⟨rfl, rfl, rfl, rfl, rfl, trivial⟩ ⟨ren_pl hfa _ _ _, ren_pl hca _ _ _, ren_pl hra _ _ _, ren_pl hfb _ _ _, ren_pl hcb _ _ _, ren_pl hrb _ _ _, rfl, rfl, rfl, rfl, ren_pl hfp _ _ _, rfl, trivial⟩ (by simp [Ob.okb, frmOk, V.okb, A.okb, hfa.2, hca.2, hra.2, hfb.2, hcb.2, hrb.2, hfp.2] <;> decide)
        · rintro y F H ⟨i, m2, c2, k2, X, xs, hi, rfl, hxs, hm2, hc2, rfl, rfl⟩
          have hxq := cts_pl hxs
          have hxl : xs.length = c2 * 3 := by rw [hxs, cts_len, List.length_append, ← hm2, ← hc2]
          have hm8 : m2 ≤ 5 := by have := bE_len Ea Eb i; omega
          by_cases hin : i < 5
          · have d1 : decide (((i + 1 : Nat) : Int) ≤ 5) = true := decide_eq_true (by omega)
            have hw : IntKind.u8.wrap (((i + 1 : Nat) : Int) + 1) = ((i + 1 + 1 : Nat) : Int) := by rw [show (((i + 1 : Nat) : Int) + 1) = ((i + 1 + 1 : Nat) : Int) by omega]; exact u8w3 (by omega)
            obtain ⟨w1, hw1⟩ : ∃ u : Nat, u = (cnt Ea (i + 1)).who := ⟨_, rfl⟩
            obtain ⟨u1, hu1⟩ : ∃ u : Nat, u = (cnt Ea (i + 1)).up := ⟨_, rfl⟩
            obtain ⟨e1, he1⟩ : ∃ u : Nat, u = (cnt Ea (i + 1)).down := ⟨_, rfl⟩
            obtain ⟨w2, hw2⟩ : ∃ u : Nat, u = (cnt Eb (i + 1)).who := ⟨_, rfl⟩
            obtain ⟨u2, hu2⟩ : ∃ u : Nat, u = (cnt Eb (i + 1)).up := ⟨_, rfl⟩
            obtain ⟨e2, he2⟩ : ∃ u : Nat, u = (cnt Eb (i + 1)).down := ⟨_, rfl⟩
            have hx : mxD Ea Eb (i + 1) = ⟨i + 1, max u1 u2, max e1 e2⟩ := by rw [hu1, hu2, he1, he2]; rfl
            conv => whnf
            repeat' ((first | (with_reducible refine y'b ‹_› ?_) | fail) <;> (conv => whnf))
            refine Fn.frame [0, 1, 2] (by rfl) (by exact ⟨ren_pl hfa _ _ _, ren_pl hca _ _ _, ren_pl hra _ _ _, trivial⟩) (by simp [nodupb, V.okb, A.okb, Ob.okb, hfa.2, hca.2, hra.2] <;> decide) (countG k ona Ea Yca fa ca ra hfa hra p1 q1 p3 q3 a1 a3 p2 q2 a2 (i + 1) eca hA.h2 (by have := hA.h2; omega) (fun kr hkr => ?_))
            obtain rfl : kr = [.int .u8 (w1 : Int), .int .i64 (u1 : Int), .int .i64 (e1 : Int)] := by rw [hkr, hw1, hu1, he1]; rfl
            clear hkr
            conv => whnf
            repeat' ((first | (with_reducible first | refine y'5 ‹_› ?_ | refine y'6 ‹_› ?_) | fail) <;> (conv => whnf))
            refine Fn.frame [3, 4, 5] (by rfl) (by exact ⟨ren_pl hfb _ _ _, ren_pl hcb _ _ _, ren_pl hrb _ _ _, trivial⟩) (by simp [nodupb, V.okb, A.okb, Ob.okb, hfb.2, hcb.2, hrb.2] <;> decide) (countG k' onb Eb Ycb fb cb rb hfb hrb r1 s1 r3 s3 b1 b3 r2 s2 b2 (i + 1) ecb hB.h2 (by have := hB.h2; omega) (fun kr hkr => ?_))
            obtain rfl : kr = [.int .u8 (w2 : Int), .int .i64 (u2 : Int), .int .i64 (e2 : Int)] := by rw [hkr, hw2, hu2, he2]; rfl
            clear hkr
            conv => whnf
            repeat' ((first | (with_reducible first | refine y'5 ‹_› ?_ | refine y'6 ‹_› ?_) | fail) <;> (conv => whnf))
            rw [imax u1 u2, imax e1 e2]
            obtain ⟨xr, hxr⟩ : ∃ xr : List A, xr = (mxD Ea Eb (i + 1)).row := ⟨_, rfl⟩
            have hxr2 : ([.int .u8 ((i + 1 : Nat) : Int), .int .i64 ((max u1 u2 : Nat) : Int), .int .i64 ((max e1 e2 : Nat) : Int)] : List A) = xr := by rw [hxr, hx]; rfl
            rw [hxr2]
            have hxp : Pl xr := by rw [hxr]; exact ⟨fun _ => rfl, fun _ => rfl⟩
            have hxl3 : xr.length = 3 := by rw [hxr]; rfl
            refine cutx_of (fun F H => F = [(2, .a (.ptr 6 0)), (3, .a (.ptr 7 0)), (4, .a (.ptr 8 0)), (5, .a (.ptr 9 0)), (7, .a (.int .u8 ((i + 1 : Nat) : Int))), (10, .a (.ptr 12 0))] ∧ H = [.cells fa 23 a1, .cells ca 104 a2, .cells ra 21 a3, .cells fb 23 b1, .cells cb 104 b2, .cells rb 21 b3, .cells [.int .u8 k, .bool ona, .slc 0 0 p1 q1, .slc 1 0 p2 q2, .slc 2 0 p3 q3] 57 false, .cells [.int .u8 k', .bool onb, .slc 3 0 r1 s1, .slc 4 0 r2 s2, .slc 5 0 r3 s3] 57 false, .cells [.int .u8 0, .bool false, .nils, .nils, .nils] 57 false, .cells [.int .u8 k, .bool o, .slc 10 0 m c, .slc 11 0 m2 c2, .nils] 57 false, .cells fs 23 bk, .cells xs 104 k2, .cells xr 104 false]) (Into.weak [0, 1, 2, 3, 4, 5, 6, 7, 8, 9, 10, 11, 14] [(2, .a (.ptr 6 0)), (3, .a (.ptr 7 0)), (4, .a (.ptr 8 0)), (5, .a (.ptr 9 0)), (7, .a (.int .u8 ((i + 1 : Nat) : Int))), (10, .a (.ptr 12 0))] [.cells fa 23 a1, .cells ca 104 a2, .cells ra 21 a3, .cells fb 23 b1, .cells cb 104 b2, .cells rb 21 b3, .cells [.int .u8 k, .bool ona, .slc 0 0 p1 q1, .slc 1 0 p2 q2, .slc 2 0 p3 q3] 57 false, .cells [.int .u8 k', .bool onb, .slc 3 0 r1 s1, .slc 4 0 r2 s2, .slc 5 0 r3 s3] 57 false, .cells [.int .u8 0, .bool false, .nils, .nils, .nils] 57 false, .cells [.int .u8 k, .bool o, .slc 10 0 m c, .slc 11 0 m2 c2, .nils] 57 false, .cells fs 23 bk, .cells xs 104 k2, .cells xr 104 false] ⟨rfl, rfl⟩ ⟨rfl, rfl, rfl, rfl, rfl, rfl, trivial⟩ ⟨ren_pl hfa _ _ _, ren_pl hca _ _ _, ren_pl hra _ _ _, ren_pl hfb _ _ _, ren_pl hcb _ _ _, ren_pl hrb _ _ _, rfl, rfl, rfl, rfl, ren_pl hfp _ _ _, ren_pl hxq _ _ _, ren_pl hxp _ _ _, trivial⟩ (by simp [Ob.okb, frmOk, V.okb, A.okb, hfa.2, hca.2, hra.2, hfb.2, hcb.2, hrb.2, hfp.2, hxq.2, hxp.2] <;> decide)) ?_
            rintro F H ⟨rfl, rfl⟩
            clear hw1 hu1 he1 hw2 hu2 he2 hxr2 w1 w2
            have hul := hxl
            clear hxl
            have hxl := hxl3
            obtain ⟨z3, hz3⟩ : ∃ z : List A, z = [.int .u8 0, .int .i64 0, .int .i64 0] := ⟨_, rfl⟩
            have hzp : Pl z3 := by rw [hz3]; exact ⟨fun _ => rfl, fun _ => rfl⟩
            have hzl : z3.length = 3 := by rw [hz3]; rfl
            have hrz : repl z3 (1 * Tryd.prog.types[104].size) = z3 := by rw [hz3]; rfl
            obtain ⟨xu, hxu⟩ : ∃ xu : Int, xu = ((max u1 u2 : Nat) : Int) := ⟨_, rfl⟩
            obtain ⟨xd, hxd⟩ : ∃ xd : Int, xd = ((max e1 e2 : Nat) : Int) := ⟨_, rfl⟩
            have g0 : xr[0 + 1]? = some (.int .i64 xu) := by rw [hxr, hxu, hx]; rfl
            have g1 : xr[0 + 2]? = some (.int .i64 xd) := by rw [hxr, hxd, hx]; rfl
            have hx1 : List.drop 0 (List.take (0 + 1 * Tryd.prog.types[104].size) xr) = xr := whole_of (by rw [hxl]; rfl)
            by_cases z1 : max u1 u2 = 0
            · have c3 : decide (xu > 0) = false := decide_eq_false (by omega)
              by_cases z2 : max e1 e2 = 0
              · have c4 : decide (xd > 0) = false := decide_eq_false (by omega)
                have hst : bE Ea Eb (i + 1) = bE Ea Eb i := by show bE Ea Eb i ++ _ = _; rw [hx, if_pos ⟨z1, z2⟩, List.append_nil]
                conv => whnf
                repeat' ((first | (with_reducible refine y'b ‹_› ?_) | ((with_reducible apply y'o); (· first | exact g0 | exact g1)) | fail) <;> (conv => whnf))
                exact ⟨5 - (i + 1), by omega, Into.weak [0, 1, 2, 3, 4, 5, 6, 7, 8, 9, 10, 11] [(2, .a (.ptr 6 0)), (3, .a (.ptr 7 0)), (4, .a (.ptr 8 0)), (5, .a (.ptr 9 0)), (7, .a (.int .u8 ((i + 1 + 1 : Nat) : Int)))] [.cells fa 23 a1, .cells ca 104 a2, .cells ra 21 a3, .cells fb 23 b1, .cells cb 104 b2, .cells rb 21 b3, .cells [.int .u8 k, .bool ona, .slc 0 0 p1 q1, .slc 1 0 p2 q2, .slc 2 0 p3 q3] 57 false, .cells [.int .u8 k', .bool onb, .slc 3 0 r1 s1, .slc 4 0 r2 s2, .slc 5 0 r3 s3] 57 false, .cells [.int .u8 0, .bool false, .nils, .nils, .nils] 57 false, .cells [.int .u8 k, .bool o, .slc 10 0 m c, .slc 11 0 m2 c2, .nils] 57 false, .cells fs 23 bk, .cells xs 104 k2] ⟨i + 1, m2, c2, k2, X, xs, by omega, rfl, by rw [hst]; exact hxs, by rw [hst]; exact hm2, hc2, rfl, rfl⟩ ⟨rfl, rfl, rfl, rfl, congrArg (fun z => some (V.a (.int .u8 z))) hw, trivial⟩ ⟨ren_pl hfa _ _ _, ren_pl hca _ _ _, ren_pl hra _ _ _, ren_pl hfb _ _ _, ren_pl hcb _ _ _, ren_pl hrb _ _ _, rfl, rfl, rfl, rfl, ren_pl hfp _ _ _, ren_pl hxq _ _ _, trivial⟩ (by simp [Ob.okb, frmOk, V.okb, A.okb, hfa.2, hca.2, hra.2, hfb.2, hcb.2, hrb.2, hfp.2, hxq.2] <;> decide)⟩
              · have c4 : decide (xd > 0) = true := decide_eq_true (by omega)
                have hst : bE Ea Eb (i + 1) = bE Ea Eb i ++ [mxD Ea Eb (i + 1)] := by show bE Ea Eb i ++ _ = _; rw [hx, if_neg (fun h => z2 h.2)]
                conv => whnf
                repeat' ((first | rw [← hz3] | rw [hrz] | rw [Nat.zero_mul Tryd.prog.types[104].size] | (with_reducible refine y'b ‹_› ?_) | (with_reducible refine y'5 ‹_› ?_) | ((with_reducible apply y'o); (· first | exact g0 | exact g1)) | ((with_reducible refine y'n ?_ ?_); (· first | (rw [hxl, hzl]; rfl) | (rw [hxl]; rfl))) | ((with_reducible refine y't (whole_of ?_) ?_); (· rw [hxl]; rfl)) | ((with_reducible refine y't (store_all ?_) ?_); (· first | rw [hxl, hzl] | rfl)) | fail) <;> (conv => whnf))
                rw [hx1]
                refine y'c (fun h => ?_) (fun h => ?_)
                · have h' := of_decide_eq_true h
                  conv => whnf
                  refine y'n (decide_eq_true (by rw [s68, hxl, hul]; omega)) ?_
                  conv => whnf
                  repeat' ((first | (with_reducible refine y'5 ‹_› ?_) | fail) <;> (conv => whnf))
                  refine y'f (cts_in hxs hxr (by rw [s68, ← hm2, Nat.zero_add]) (by omega)) (fun us hus => ?_)
                  have hup := cts_pl hus
                  conv => whnf
                  repeat' ((first | (with_reducible refine y'5 ‹_› ?_) | fail) <;> (conv => whnf))
                  exact ⟨5 - (i + 1), by omega, Into.weak [0, 1, 2, 3, 4, 5, 6, 7, 8, 9, 10, 11] [(2, .a (.ptr 6 0)), (3, .a (.ptr 7 0)), (4, .a (.ptr 8 0)), (5, .a (.ptr 9 0)), (7, .a (.int .u8 ((i + 1 + 1 : Nat) : Int)))] [.cells fa 23 a1, .cells ca 104 a2, .cells ra 21 a3, .cells fb 23 b1, .cells cb 104 b2, .cells rb 21 b3, .cells [.int .u8 k, .bool ona, .slc 0 0 p1 q1, .slc 1 0 p2 q2, .slc 2 0 p3 q3] 57 false, .cells [.int .u8 k', .bool onb, .slc 3 0 r1 s1, .slc 4 0 r2 s2, .slc 5 0 r3 s3] 57 false, .cells [.int .u8 0, .bool false, .nils, .nils, .nils] 57 false, .cells [.int .u8 k, .bool o, .slc 10 0 m c, .slc 11 0 (m2 + 1) c2, .nils] 57 false, .cells fs 23 bk, .cells us 104 k2] ⟨i + 1, m2 + 1, c2, k2, X.tail, us, by omega, rfl, by rw [hst]; exact hus, by rw [hst, List.length_append, ← hm2]; rfl, by rw [List.length_tail]; omega, rfl, rfl⟩ ⟨rfl, rfl, rfl, rfl, congrArg (fun z => some (V.a (.int .u8 z))) hw, trivial⟩ ⟨ren_pl hfa _ _ _, ren_pl hca _ _ _, ren_pl hra _ _ _, ren_pl hfb _ _ _, ren_pl hcb _ _ _, ren_pl hrb _ _ _, rfl, rfl, rfl, rfl, ren_pl hfp _ _ _, ren_pl hup _ _ _, trivial⟩ (by simp [Ob.okb, frmOk, V.okb, A.okb, hfa.2, hca.2, hra.2, hfb.2, hcb.2, hrb.2, hfp.2, hup.2] <;> decide)⟩
                · have h' := of_decide_eq_false h
                  conv => whnf
                  refine y'n (decide_eq_true (by rw [s68, b68, hul]; omega)) ?_
                  intro cap' hcap'
                  conv => whnf
                  repeat' ((first | (with_reducible refine y'5 ‹_› ?_) | fail) <;> (conv => whnf))
                  refine y'f (cts_new hxs hxr (n := cap' - (m2 + 1)) (by rw [s68, ← hm2]) hz3) (fun us hus => ?_)
                  have hup := cts_pl hus
                  conv => whnf
                  repeat' ((first | (with_reducible refine y'5 ‹_› ?_) | fail) <;> (conv => whnf))
                  exact ⟨5 - (i + 1), by omega, Into.weak [0, 1, 2, 3, 4, 5, 6, 7, 8, 9, 10, 14] [(2, .a (.ptr 6 0)), (3, .a (.ptr 7 0)), (4, .a (.ptr 8 0)), (5, .a (.ptr 9 0)), (7, .a (.int .u8 ((i + 1 + 1 : Nat) : Int)))] [.cells fa 23 a1, .cells ca 104 a2, .cells ra 21 a3, .cells fb 23 b1, .cells cb 104 b2, .cells rb 21 b3, .cells [.int .u8 k, .bool ona, .slc 0 0 p1 q1, .slc 1 0 p2 q2, .slc 2 0 p3 q3] 57 false, .cells [.int .u8 k', .bool onb, .slc 3 0 r1 s1, .slc 4 0 r2 s2, .slc 5 0 r3 s3] 57 false, .cells [.int .u8 0, .bool false, .nils, .nils, .nils] 57 false, .cells [.int .u8 k, .bool o, .slc 10 0 m c, .slc 11 0 (m2 + 1) cap', .nils] 57 false, .cells fs 23 bk, .cells us 104 false] ⟨i + 1, m2 + 1, cap', false, List.replicate (cap' - (m2 + 1)) cz, us, by omega, rfl, by rw [hst]; exact hus, by rw [hst, List.length_append, ← hm2]; rfl, by rw [List.length_replicate]; omega, rfl, rfl⟩ ⟨rfl, rfl, rfl, rfl, congrArg (fun z => some (V.a (.int .u8 z))) hw, trivial⟩ ⟨ren_pl hfa _ _ _, ren_pl hca _ _ _, ren_pl hra _ _ _, ren_pl hfb _ _ _, ren_pl hcb _ _ _, ren_pl hrb _ _ _, rfl, rfl, rfl, rfl, ren_pl hfp _ _ _, ren_pl hup _ _ _, trivial⟩ (by simp [Ob.okb, frmOk, V.okb, A.okb, hfa.2, hca.2, hra.2, hfb.2, hcb.2, hrb.2, hfp.2, hup.2] <;> decide)⟩
            · have c3 : decide (xu > 0) = true := decide_eq_true (by omega)
              have hst : bE Ea Eb (i + 1) = bE Ea Eb i ++ [mxD Ea Eb (i + 1)] := by show bE Ea Eb i ++ _ = _; rw [hx, if_neg (fun h => z1 h.1)]
              conv => whnf
              repeat' ((first | rw [← hz3] | rw [hrz] | rw [Nat.zero_mul Tryd.prog.types[104].size] | (with_reducible refine y'b ‹_› ?_) | (with_reducible refine y'5 ‹_› ?_) | ((with_reducible apply y'o); (· first | exact g0 | exact g1)) | ((with_reducible refine y'n ?_ ?_); (· first | (rw [hxl, hzl]; rfl) | (rw [hxl]; rfl))) | ((with_reducible refine y't (whole_of ?_) ?_); (· rw [hxl]; rfl)) | ((with_reducible refine y't (store_all ?_) ?_); (· first | rw [hxl, hzl] | rfl)) | fail) <;> (conv => whnf))
              rw [hx1]
              refine y'c (fun h => ?_) (fun h => ?_)
              · have h' := of_decide_eq_true h
                conv => whnf
                refine y'n (decide_eq_true (by rw [s68, hxl, hul]; omega)) ?_
                conv => whnf
                repeat' ((first | (with_reducible refine y'5 ‹_› ?_) | fail) <;> (conv => whnf))
                refine y'f (cts_in hxs hxr (by rw [s68, ← hm2, Nat.zero_add]) (by omega)) (fun us hus => ?_)
                have hup := cts_pl hus
                conv => whnf
                repeat' ((first | (with_reducible refine y'5 ‹_› ?_) | fail) <;> (conv => whnf))
                exact ⟨5 - (i + 1), by omega, Into.weak [0, 1, 2, 3, 4, 5, 6, 7, 8, 9, 10, 11] [(2, .a (.ptr 6 0)), (3, .a (.ptr 7 0)), (4, .a (.ptr 8 0)), (5, .a (.ptr 9 0)), (7, .a (.int .u8 ((i + 1 + 1 : Nat) : Int)))] [.cells fa 23 a1, .cells ca 104 a2, .cells ra 21 a3, .cells fb 23 b1, .cells cb 104 b2, .cells rb 21 b3, .cells [.int .u8 k, .bool ona, .slc 0 0 p1 q1, .slc 1 0 p2 q2, .slc 2 0 p3 q3] 57 false, .cells [.int .u8 k', .bool onb, .slc 3 0 r1 s1, .slc 4 0 r2 s2, .slc 5 0 r3 s3] 57 false, .cells [.int .u8 0, .bool false, .nils, .nils, .nils] 57 false, .cells [.int .u8 k, .bool o, .slc 10 0 m c, .slc 11 0 (m2 + 1) c2, .nils] 57 false, .cells fs 23 bk, .cells us 104 k2] ⟨i + 1, m2 + 1, c2, k2, X.tail, us, by omega, rfl, by rw [hst]; exact hus, by rw [hst, List.length_append, ← hm2]; rfl, by rw [List.length_tail]; omega, rfl, rfl⟩ ⟨rfl, rfl, rfl, rfl, congrArg (fun z => some (V.a (.int .u8 z))) hw, trivial⟩ ⟨ren_pl hfa _ _ _, ren_pl hca _ _ _, ren_pl hra _ _ _, ren_pl hfb _ _ _, ren_pl hcb _ _ _, ren_pl hrb _ _ _, rfl, rfl, rfl, rfl, ren_pl hfp _ _ _, ren_pl hup _ _ _, trivial⟩ (by simp [Ob.okb, frmOk, V.okb, A.okb, hfa.2, hca.2, hra.2, hfb.2, hcb.2, hrb.2, hfp.2, hup.2] <;> decide)⟩
              · have h' := of_decide_eq_false h
                conv => whnf
                refine y'n (decide_eq_true (by rw [s68, b68, hul]; omega)) ?_
                intro cap' hcap'
                conv => whnf
                repeat' ((first | (with_reducible refine y'5 ‹_› ?_) | fail) <;> (conv => whnf))
                refine y'f (cts_new hxs hxr (n := cap' - (m2 + 1)) (by rw [s68, ← hm2]) hz3) (fun us hus => ?_)
                have hup := cts_pl hus
                conv => whnf
                repeat' ((first | (with_reducible refine y'5 ‹_› ?_) | fail) <;> (conv => whnf))
                exact ⟨5 - (i + 1), by omega, Into.weak [0, 1, 2, 3, 4, 5, 6, 7, 8, 9, 10, 14] [(2, .a (.ptr 6 0)), (3, .a (.ptr 7 0)), (4, .a (.ptr 8 0)), (5, .a (.ptr 9 0)), (7, .a (.int .u8 ((i + 1 + 1 : Nat) : Int)))] [.cells fa 23 a1, .cells ca 104 a2, .cells ra 21 a3, .cells fb 23 b1, .cells cb 104 b2, .cells rb 21 b3, .cells [.int .u8 k, .bool ona, .slc 0 0 p1 q1, .slc 1 0 p2 q2, .slc 2 0 p3 q3] 57 false, .cells [.int .u8 k', .bool onb, .slc 3 0 r1 s1, .slc 4 0 r2 s2, .slc 5 0 r3 s3] 57 false, .cells [.int .u8 0, .bool false, .nils, .nils, .nils] 57 false, .cells [.int .u8 k, .bool o, .slc 10 0 m c, .slc 11 0 (m2 + 1) cap', .nils] 57 false, .cells fs 23 bk, .cells us 104 false] ⟨i + 1, m2 + 1, cap', false, List.replicate (cap' - (m2 + 1)) cz, us, by omega, rfl, by rw [hst]; exact hus, by rw [hst, List.length_append, ← hm2]; rfl, by rw [List.length_replicate]; omega, rfl, rfl⟩ ⟨rfl, rfl, rfl, rfl, congrArg (fun z => some (V.a (.int .u8 z))) hw, trivial⟩ ⟨ren_pl hfa _ _ _, ren_pl hca _ _ _, ren_pl hra _ _ _, ren_pl hfb _ _ _, ren_pl hcb _ _ _, ren_pl hrb _ _ _, rfl, rfl, rfl, rfl, ren_pl hfp _ _ _, ren_pl hup _ _ _, trivial⟩ (by simp [Ob.okb, frmOk, V.okb, A.okb, hfa.2, hca.2, hra.2, hfb.2, hcb.2, hrb.2, hfp.2, hup.2] <;> decide)⟩
          · have d1 : decide (((i + 1 : Nat) : Int) ≤ 5) = false := decide_eq_false (by omega)
            rw [show i = 5 by omega] at hxs hm2
            clear hi hin
            conv => whnf
            repeat' ((first | (with_reducible refine y'b ‹_› ?_) | fail) <;> (conv => whnf))
            refine cutx_of (fun F H => ∃ (ng cg : Nat) (kg : Bool) (Yg : List Nat) (gs : List A), gs = i32s (([] : List Nat) ++ Yg) ∧ ng = (([] : List Nat)).length ∧ cg = ng + Yg.length ∧ F = [(2, .a (.ptr 6 0)), (3, .a (.ptr 7 0)), (4, .a (.ptr 8 0)), (5, .a (.ptr 9 0)), (11, .a (.slc 12 0 ng cg))] ∧ H = [.cells fa 23 a1, .cells ca 104 a2, .cells ra 21 a3, .cells fb 23 b1, .cells cb 104 b2, .cells rb 21 b3, .cells [.int .u8 k, .bool ona, .slc 0 0 p1 q1, .slc 1 0 p2 q2, .slc 2 0 p3 q3] 57 false, .cells [.int .u8 k', .bool onb, .slc 3 0 r1 s1, .slc 4 0 r2 s2, .slc 5 0 r3 s3] 57 false, .cells [.int .u8 0, .bool false, .nils, .nils, .nils] 57 false, .cells [.int .u8 k, .bool o, .slc 10 0 m c, .slc 11 0 m2 c2, .nils] 57 false, .cells fs 23 bk, .cells xs 104 k2, .cells gs 21 kg]) ?_ ?_
            · refine Into.ghost 12 [(2, .a (.ptr 6 0)), (3, .a (.ptr 7 0)), (4, .a (.ptr 8 0)), (5, .a (.ptr 9 0)), (11, .a (.slc 12 0 0 0))] [.cells fa 23 a1, .cells ca 104 a2, .cells ra 21 a3, .cells fb 23 b1, .cells cb 104 b2, .cells rb 21 b3, .cells [.int .u8 k, .bool ona, .slc 0 0 p1 q1, .slc 1 0 p2 q2, .slc 2 0 p3 q3] 57 false, .cells [.int .u8 k', .bool onb, .slc 3 0 r1 s1, .slc 4 0 r2 s2, .slc 5 0 r3 s3] 57 false, .cells [.int .u8 0, .bool false, .nils, .nils, .nils] 57 false, .cells [.int .u8 k, .bool o, .slc 10 0 m c, .slc 11 0 m2 c2, .nils] 57 false, .cells fs 23 bk, .cells xs 104 k2, .cells [] 21 false] rfl ⟨rfl, rfl, rfl, rfl, rfl, trivial⟩ ⟨ung_pl hfa.1 _ _ _, ung_pl hca.1 _ _ _, ung_pl hra.1 _ _ _, ung_pl hfb.1 _ _ _, ung_pl hcb.1 _ _ _, ung_pl hrb.1 _ _ _, rfl, rfl, rfl, rfl, ung_pl hfp.1 _ _ _, ung_pl hxq.1 _ _ _, rfl, trivial⟩ (by simp [Ob.okb, frmOk, V.okb, A.okb, hfa.2, hca.2, hra.2, hfb.2, hcb.2, hrb.2, hfp.2, hxq.2] <;> decide) ?_
              exact Into.weak [0, 1, 2, 3, 4, 5, 6, 7, 8, 9, 10, 11, 12] _ [.cells fa 23 a1, .cells ca 104 a2, .cells ra 21 a3, .cells fb 23 b1, .cells cb 104 b2, .cells rb 21 b3, .cells [.int .u8 k, .bool ona, .slc 0 0 p1 q1, .slc 1 0 p2 q2, .slc 2 0 p3 q3] 57 false, .cells [.int .u8 k', .bool onb, .slc 3 0 r1 s1, .slc 4 0 r2 s2, .slc 5 0 r3 s3] 57 false, .cells [.int .u8 0, .bool false, .nils, .nils, .nils] 57 false, .cells [.int .u8 k, .bool o, .slc 10 0 m c, .slc 11 0 m2 c2, .nils] 57 false, .cells fs 23 bk, .cells xs 104 k2, .cells [] 21 false] ⟨0, 0, false, [], [], i32s_nil.symm, rfl, rfl, rfl, rfl⟩ ⟨rfl, rfl, rfl, rfl, rfl, trivial⟩ ⟨ren_pl hfa _ _ _, ren_pl hca _ _ _, ren_pl hra _ _ _, ren_pl hfb _ _ _, ren_pl hcb _ _ _, ren_pl hrb _ _ _, rfl, rfl, rfl, rfl, ren_pl hfp _ _ _, ren_pl hxq _ _ _, rfl, trivial⟩ (by simp [Ob.okb, frmOk, V.okb, A.okb, hfa.2, hca.2, hra.2, hfb.2, hcb.2, hrb.2, hfp.2, hxq.2] <;> decide)
            rintro F H ⟨ng, cg, kg, Yg, gs, hgs, hng, hcg, rfl, rfl⟩
            have hgp := i32s_pl hgs
            have hgl : gs.length = cg := by rw [hgs, i32s_len, List.length_append]; omega
            have hral : ra.length = La.length + Yra.length := by rw [era, i32s_len, List.length_append]
            have hnN : p3 = La.length := hA.h3
            have hn1 : ng ≤ 100 := by rw [hng]; simp <;> omega
            conv => whnf
            skip
            refine y'n (decide_eq_true (by rw [s21, hral]; omega)) ?_
            obtain ⟨nw, hnw⟩ : ∃ nw, nw = List.drop 0 (List.take (0 + p3 * Tryd.prog.types[21].size) ra) := ⟨_, rfl⟩
            have hnw2 : nw = i32s La := by rw [hnw, i32_sub era (by omega) s21, List.drop_zero, List.take_of_length_le (by omega)]
            have hnl : nw.length = p3 := by rw [hnw2, i32s_len]; omega
            conv => whnf
            rw [← hnw]
            clear hnw
            refine y'c (fun h => ?_) (fun h => ?_)
            case' refine_1 =>
              have h' := of_decide_eq_true h
              conv => whnf
              refine y'n (decide_eq_true (by rw [s21, hnl, hgl]; omega)) ?_
              conv => whnf
              repeat' ((first | (with_reducible refine y'5 ‹_› ?_) | fail) <;> (conv => whnf))
              refine y'f (i32_ins (n := ng) hgs hnw2 hng s21 (by omega)) (fun xg hxg => ?_)
              have hxgp := i32s_pl hxg
              conv => whnf
              skip
              refine cutx_of (fun F H => ∃ (ng cg : Nat) (kg : Bool) (Yg : List Nat) (gs : List A), gs = i32s ((([] : List Nat) ++ La) ++ Yg) ∧ ng = ((([] : List Nat) ++ La)).length ∧ cg = ng + Yg.length ∧ F = [(2, .a (.ptr 6 0)), (3, .a (.ptr 7 0)), (4, .a (.ptr 8 0)), (5, .a (.ptr 9 0)), (11, .a (.slc 12 0 ng cg))] ∧ H = [.cells fa 23 a1, .cells ca 104 a2, .cells ra 21 a3, .cells fb 23 b1, .cells cb 104 b2, .cells rb 21 b3, .cells [.int .u8 k, .bool ona, .slc 0 0 p1 q1, .slc 1 0 p2 q2, .slc 2 0 p3 q3] 57 false, .cells [.int .u8 k', .bool onb, .slc 3 0 r1 s1, .slc 4 0 r2 s2, .slc 5 0 r3 s3] 57 false, .cells [.int .u8 0, .bool false, .nils, .nils, .nils] 57 false, .cells [.int .u8 k, .bool o, .slc 10 0 m c, .slc 11 0 m2 c2, .nils] 57 false, .cells fs 23 bk, .cells xs 104 k2, .cells gs 21 kg]) (Into.weak [0, 1, 2, 3, 4, 5, 6, 7, 8, 9, 10, 11, 12] [(2, .a (.ptr 6 0)), (3, .a (.ptr 7 0)), (4, .a (.ptr 8 0)), (5, .a (.ptr 9 0)), (11, .a (.slc 12 0 (ng + p3) cg))] [.cells fa 23 a1, .cells ca 104 a2, .cells ra 21 a3, .cells fb 23 b1, .cells cb 104 b2, .cells rb 21 b3, .cells [.int .u8 k, .bool ona, .slc 0 0 p1 q1, .slc 1 0 p2 q2, .slc 2 0 p3 q3] 57 false, .cells [.int .u8 k', .bool onb, .slc 3 0 r1 s1, .slc 4 0 r2 s2, .slc 5 0 r3 s3] 57 false, .cells [.int .u8 0, .bool false, .nils, .nils, .nils] 57 false, .cells [.int .u8 k, .bool o, .slc 10 0 m c, .slc 11 0 m2 c2, .nils] 57 false, .cells fs 23 bk, .cells xs 104 k2, .cells xg 21 kg] ⟨_, _, kg, _, xg, hxg, (by rw [List.length_append]; omega), (by rw [List.length_drop]; omega), rfl, rfl⟩ ⟨rfl, rfl, rfl, rfl, rfl, trivial⟩ ⟨ren_pl hfa _ _ _, ren_pl hca _ _ _, ren_pl hra _ _ _, ren_pl hfb _ _ _, ren_pl hcb _ _ _, ren_pl hrb _ _ _, rfl, rfl, rfl, rfl, ren_pl hfp _ _ _, ren_pl hxq _ _ _, ren_pl hxgp _ _ _, trivial⟩ (by simp [Ob.okb, frmOk, V.okb, A.okb, hfa.2, hca.2, hra.2, hfb.2, hcb.2, hrb.2, hfp.2, hxq.2, hxgp.2] <;> decide)) ?_
            case' refine_2 =>
              have h' := of_decide_eq_false h
              conv => whnf
              refine y'n (decide_eq_true (by rw [s21, b21, hgl]; omega)) ?_
              intro cap' hcap'
              conv => whnf
              repeat' ((first | (with_reducible refine y'5 ‹_› ?_) | fail) <;> (conv => whnf))
              refine y'f (i32_cat (n := ng) (c := cap') hgs hnw2 hng s21 rfl) (fun xg hxg => ?_)
              have hxgp := i32s_pl hxg
              conv => whnf
              skip
              refine cutx_of (fun F H => ∃ (ng cg : Nat) (kg : Bool) (Yg : List Nat) (gs : List A), gs = i32s ((([] : List Nat) ++ La) ++ Yg) ∧ ng = ((([] : List Nat) ++ La)).length ∧ cg = ng + Yg.length ∧ F = [(2, .a (.ptr 6 0)), (3, .a (.ptr 7 0)), (4, .a (.ptr 8 0)), (5, .a (.ptr 9 0)), (11, .a (.slc 12 0 ng cg))] ∧ H = [.cells fa 23 a1, .cells ca 104 a2, .cells ra 21 a3, .cells fb 23 b1, .cells cb 104 b2, .cells rb 21 b3, .cells [.int .u8 k, .bool ona, .slc 0 0 p1 q1, .slc 1 0 p2 q2, .slc 2 0 p3 q3] 57 false, .cells [.int .u8 k', .bool onb, .slc 3 0 r1 s1, .slc 4 0 r2 s2, .slc 5 0 r3 s3] 57 false, .cells [.int .u8 0, .bool false, .nils, .nils, .nils] 57 false, .cells [.int .u8 k, .bool o, .slc 10 0 m c, .slc 11 0 m2 c2, .nils] 57 false, .cells fs 23 bk, .cells xs 104 k2, .cells gs 21 kg]) (Into.weak [0, 1, 2, 3, 4, 5, 6, 7, 8, 9, 10, 11, 13] [(2, .a (.ptr 6 0)), (3, .a (.ptr 7 0)), (4, .a (.ptr 8 0)), (5, .a (.ptr 9 0)), (11, .a (.slc 12 0 (ng + p3) cap'))] [.cells fa 23 a1, .cells ca 104 a2, .cells ra 21 a3, .cells fb 23 b1, .cells cb 104 b2, .cells rb 21 b3, .cells [.int .u8 k, .bool ona, .slc 0 0 p1 q1, .slc 1 0 p2 q2, .slc 2 0 p3 q3] 57 false, .cells [.int .u8 k', .bool onb, .slc 3 0 r1 s1, .slc 4 0 r2 s2, .slc 5 0 r3 s3] 57 false, .cells [.int .u8 0, .bool false, .nils, .nils, .nils] 57 false, .cells [.int .u8 k, .bool o, .slc 10 0 m c, .slc 11 0 m2 c2, .nils] 57 false, .cells fs 23 bk, .cells xs 104 k2, .cells xg 21 false] ⟨_, _, false, _, xg, hxg, (by rw [List.length_append]; omega), (by rw [List.length_replicate]; omega), rfl, rfl⟩ ⟨rfl, rfl, rfl, rfl, rfl, trivial⟩ ⟨ren_pl hfa _ _ _, ren_pl hca _ _ _, ren_pl hra _ _ _, ren_pl hfb _ _ _, ren_pl hcb _ _ _, ren_pl hrb _ _ _, rfl, rfl, rfl, rfl, ren_pl hfp _ _ _, ren_pl hxq _ _ _, ren_pl hxgp _ _ _, trivial⟩ (by simp [Ob.okb, frmOk, V.okb, A.okb, hfa.2, hca.2, hra.2, hfb.2, hcb.2, hrb.2, hfp.2, hxq.2, hxgp.2] <;> decide)) ?_
            all_goals
              clear xg hxg hxgp gs hgs hgp hgl hcg hng nw hnw2 hnl h h' hral hnN hn1
              rintro F H ⟨ng, cg, kg, Yg, gs, hgs, hng, hcg, rfl, rfl⟩
              have hgp := i32s_pl hgs
              have hgl : gs.length = cg := by rw [hgs, i32s_len, List.length_append]; omega
              have hral : rb.length = Lb.length + Yrb.length := by rw [erb, i32s_len, List.length_append]
              have hnN : r3 = Lb.length := hB.h3
              have hn1 : ng ≤ 100 := by rw [hng]; simp <;> omega
              conv => whnf
              skip
              refine y'n (decide_eq_true (by rw [s21, hral]; omega)) ?_
              obtain ⟨nw, hnw⟩ : ∃ nw, nw = List.drop 0 (List.take (0 + r3 * Tryd.prog.types[21].size) rb) := ⟨_, rfl⟩
              have hnw2 : nw = i32s Lb := by rw [hnw, i32_sub erb (by omega) s21, List.drop_zero, List.take_of_length_le (by omega)]
              have hnl : nw.length = r3 := by rw [hnw2, i32s_len]; omega
              conv => whnf
              rw [← hnw]
              clear hnw
              refine y'c (fun h => ?_) (fun h => ?_)
              case' refine_1 =>
                have h' := of_decide_eq_true h
                conv => whnf
                refine y'n (decide_eq_true (by rw [s21, hnl, hgl]; omega)) ?_
                conv => whnf
                repeat' ((first | (with_reducible refine y'5 ‹_› ?_) | fail) <;> (conv => whnf))
                refine y'f (i32_ins (n := ng) hgs hnw2 hng s21 (by omega)) (fun xg hxg => ?_)
                have hxgp := i32s_pl hxg
                conv => whnf
                skip
                refine cutx_of (fun F H => ∃ (ng cg : Nat) (kg : Bool) (Yg : List Nat) (gs : List A), gs = i32s (((([] : List Nat) ++ La) ++ Lb) ++ Yg) ∧ ng = (((([] : List Nat) ++ La) ++ Lb)).length ∧ cg = ng + Yg.length ∧ F = [(2, .a (.ptr 6 0)), (3, .a (.ptr 7 0)), (4, .a (.ptr 8 0)), (5, .a (.ptr 9 0)), (11, .a (.slc 12 0 ng cg))] ∧ H = [.cells fa 23 a1, .cells ca 104 a2, .cells ra 21 a3, .cells fb 23 b1, .cells cb 104 b2, .cells rb 21 b3, .cells [.int .u8 k, .bool ona, .slc 0 0 p1 q1, .slc 1 0 p2 q2, .slc 2 0 p3 q3] 57 false, .cells [.int .u8 k', .bool onb, .slc 3 0 r1 s1, .slc 4 0 r2 s2, .slc 5 0 r3 s3] 57 false, .cells [.int .u8 0, .bool false, .nils, .nils, .nils] 57 false, .cells [.int .u8 k, .bool o, .slc 10 0 m c, .slc 11 0 m2 c2, .nils] 57 false, .cells fs 23 bk, .cells xs 104 k2, .cells gs 21 kg]) (Into.weak [0, 1, 2, 3, 4, 5, 6, 7, 8, 9, 10, 11, 12] [(2, .a (.ptr 6 0)), (3, .a (.ptr 7 0)), (4, .a (.ptr 8 0)), (5, .a (.ptr 9 0)), (11, .a (.slc 12 0 (ng + r3) cg))] [.cells fa 23 a1, .cells ca 104 a2, .cells ra 21 a3, .cells fb 23 b1, .cells cb 104 b2, .cells rb 21 b3, .cells [.int .u8 k, .bool ona, .slc 0 0 p1 q1, .slc 1 0 p2 q2, .slc 2 0 p3 q3] 57 false, .cells [.int .u8 k', .bool onb, .slc 3 0 r1 s1, .slc 4 0 r2 s2, .slc 5 0 r3 s3] 57 false, .cells [.int .u8 0, .bool false, .nils, .nils, .nils] 57 false, .cells [.int .u8 k, .bool o, .slc 10 0 m c, .slc 11 0 m2 c2, .nils] 57 false, .cells fs 23 bk, .cells xs 104 k2, .cells xg 21 kg] ⟨_, _, kg, _, xg, hxg, (by rw [List.length_append]; omega), (by rw [List.length_drop]; omega), rfl, rfl⟩ ⟨rfl, rfl, rfl, rfl, rfl, trivial⟩ ⟨ren_pl hfa _ _ _, ren_pl hca _ _ _, ren_pl hra _ _ _, ren_pl hfb _ _ _, ren_pl hcb _ _ _, ren_pl hrb _ _ _, rfl, rfl, rfl, rfl, ren_pl hfp _ _ _, ren_pl hxq _ _ _, ren_pl hxgp _ _ _, trivial⟩ (by simp [Ob.okb, frmOk, V.okb, A.okb, hfa.2, hca.2, hra.2, hfb.2, hcb.2, hrb.2, hfp.2, hxq.2, hxgp.2] <;> decide)) ?_
              case' refine_2 =>
                have h' := of_decide_eq_false h
                conv => whnf
                refine y'n (decide_eq_true (by rw [s21, b21, hgl]; omega)) ?_
                intro cap' hcap'
                conv => whnf
                repeat' ((first | (with_reducible refine y'5 ‹_› ?_) | fail) <;> (conv => whnf))
                refine y'f (i32_cat (n := ng) (c := cap') hgs hnw2 hng s21 rfl) (fun xg hxg => ?_)
                have hxgp := i32s_pl hxg
                conv => whnf
                skip
                refine cutx_of (fun F H => ∃ (ng cg : Nat) (kg : Bool) (Yg : List Nat) (gs : List A), gs = i32s (((([] : List Nat) ++ La) ++ Lb) ++ Yg) ∧ ng = (((([] : List Nat) ++ La) ++ Lb)).length ∧ cg = ng + Yg.length ∧ F = [(2, .a (.ptr 6 0)), (3, .a (.ptr 7 0)), (4, .a (.ptr 8 0)), (5, .a (.ptr 9 0)), (11, .a (.slc 12 0 ng cg))] ∧ H = [.cells fa 23 a1, .cells ca 104 a2, .cells ra 21 a3, .cells fb 23 b1, .cells cb 104 b2, .cells rb 21 b3, .cells [.int .u8 k, .bool ona, .slc 0 0 p1 q1, .slc 1 0 p2 q2, .slc 2 0 p3 q3] 57 false, .cells [.int .u8 k', .bool onb, .slc 3 0 r1 s1, .slc 4 0 r2 s2, .slc 5 0 r3 s3] 57 false, .cells [.int .u8 0, .bool false, .nils, .nils, .nils] 57 false, .cells [.int .u8 k, .bool o, .slc 10 0 m c, .slc 11 0 m2 c2, .nils] 57 false, .cells fs 23 bk, .cells xs 104 k2, .cells gs 21 kg]) (Into.weak [0, 1, 2, 3, 4, 5, 6, 7, 8, 9, 10, 11, 13] [(2, .a (.ptr 6 0)), (3, .a (.ptr 7 0)), (4, .a (.ptr 8 0)), (5, .a (.ptr 9 0)), (11, .a (.slc 12 0 (ng + r3) cap'))] [.cells fa 23 a1, .cells ca 104 a2, .cells ra 21 a3, .cells fb 23 b1, .cells cb 104 b2, .cells rb 21 b3, .cells [.int .u8 k, .bool ona, .slc 0 0 p1 q1, .slc 1 0 p2 q2, .slc 2 0 p3 q3] 57 false, .cells [.int .u8 k', .bool onb, .slc 3 0 r1 s1, .slc 4 0 r2 s2, .slc 5 0 r3 s3] 57 false, .cells [.int .u8 0, .bool false, .nils, .nils, .nils] 57 false, .cells [.int .u8 k, .bool o, .slc 10 0 m c, .slc 11 0 m2 c2, .nils] 57 false, .cells fs 23 bk, .cells xs 104 k2, .cells xg 21 false] ⟨_, _, false, _, xg, hxg, (by rw [List.length_append]; omega), (by rw [List.length_replicate]; omega), rfl, rfl⟩ ⟨rfl, rfl, rfl, rfl, rfl, trivial⟩ ⟨ren_pl hfa _ _ _, ren_pl hca _ _ _, ren_pl hra _ _ _, ren_pl hfb _ _ _, ren_pl hcb _ _ _, ren_pl hrb _ _ _, rfl, rfl, rfl, rfl, ren_pl hfp _ _ _, ren_pl hxq _ _ _, ren_pl hxgp _ _ _, trivial⟩ (by simp [Ob.okb, frmOk, V.okb, A.okb, hfa.2, hca.2, hra.2, hfb.2, hcb.2, hrb.2, hfp.2, hxq.2, hxgp.2] <;> decide)) ?_
              all_goals
                clear xg hxg hxgp gs hgs hgp hgl hcg hng nw hnw2 hnl h h' hral hnN hn1
                rw [List.nil_append]
                rintro F H ⟨ng, cg, kg, Yg, gs, hgs, hng, hcg, rfl, rfl⟩
                have hgp := i32s_pl hgs
                conv => whnf
                skip
                refine Fn.frame [12] (by rfl) (by exact ⟨ren_pl hgp _ _ _, trivial⟩) (by simp [nodupb, V.okb, A.okb, Ob.okb, hgp.2] <;> decide) (rising1 (La ++ Lb) Yg gs ng cg kg hgs hng (by rw [hng, List.length_append]; omega) (fun r hr => (List.mem_append.1 hr).elim (hA.run r) (hB.run r)) (fun os Yo mo co ko hos hmo hco => ?_))
                have hop := i32s_pl hos
                conv => whnf
                repeat' ((first | (with_reducible first | refine y'5 ‹_› ?_ | refine y'6 ‹_› ?_) | fail) <;> (conv => whnf))
                exact keepOf (v₀ := .g [.int .u8 k, .bool o, .slc 6 0 m c, .slc 7 0 m2 c2, .slc 8 0 mo co]) [.cells fa 23 a1, .cells ca 104 a2, .cells ra 21 a3, .cells fb 23 b1, .cells cb 104 b2, .cells rb 21 b3, .cells fs 23 bk, .cells xs 104 k2, .cells os 21 ko] [0, 1, 2, 3, 4, 5, 10, 11, 13] rfl ⟨ren_pl hfa _ _ _, ren_pl hca _ _ _, ren_pl hra _ _ _, ren_pl hfb _ _ _, ren_pl hcb _ _ _, ren_pl hrb _ _ _, ren_pl hfp _ _ _, ren_pl hxq _ _ _, ren_pl hop _ _ _, trivial⟩ (by simp [Ob.okb, frmOk, V.okb, A.okb, hfa.2, hca.2, hra.2, hfb.2, hcb.2, hrb.2, hfp.2, hxq.2, hop.2] <;> decide) (hK fs xs os m c m2 c2 mo co bk k2 ko ⟨⟨Y, hfs⟩, ⟨X, hxs⟩, ⟨Yo, hos⟩, hmz, hm2, hmo, ⟨by rw [List.length_zipWith]; omega, by have := bE_len Ea Eb 5; omega, by have := insL_len (La ++ Lb); rw [List.length_append] at this; omega⟩, gtz_can _ _ hA.can hB.can, bE_lt hA.lt hB.lt 5 (Nat.le_refl 5), fun r hr => (List.mem_append.1 (((insL_ok _).2 r).1 hr)).elim (hA.run r) (hB.run r)⟩)
end
end Go.Proofs.YtimddbgnaeeggaaDoor.KD
namespace Go.Proofs.YtimddbgnaeeggaaDoor.KD
open Go.Eng
set_option maxRecDepth 100000
def Va.ct : Va → List Cn
  | .tally c => pe (encC c 6)
  | _ => []
theorem cnt_enc' {c : List Nat} (h : Ct c) {q u v : Nat} (hq : 1 ≤ q ∧ q ≤ 5) (hu : c[q * 2]? = some u) (hv : c[q * 2 + 1]? = some v) : cnt (pe (encC c 6)) q = ⟨q, u, v⟩ := by
  obtain ⟨a1, b1, a2, b2, a3, b3, a4, b4, a5, b5, rfl, e⟩ := pe_enc h
  rw [e]
  simp only [cnt_if, cnt]
  obtain ⟨h1, h2⟩ := hq
  have hc : q = 1 ∨ q = 2 ∨ q = 3 ∨ q = 4 ∨ q = 5 := by omega
  rcases hc with rfl | rfl | rfl | rfl | rfl <;> (simp at hu hv; subst hu hv; simp; intro h1 h2; simp [h1, h2])
theorem mxC_get {c d : List Nat} {k x y : Nat} (hc : c[k]? = some x) (hd : d[k]? = some y) : (mxC c d)[k]? = some (max x y) := by
  unfold mxC
  rw [List.getElem?_zipWith, hc, hd]
/-- What both counts make, told. -/
theorem cbs_bE {c d : List Nat} (hc : Ct c) (hd : Ct d) : ∀ i, i ≤ 5 → cbs (bE (pe (encC c 6)) (pe (encC d 6)) i) = encC (mxC c d) (i + 1) := by
  have hm := hc.mx hd
  intro i
  induction i with
  | zero =>
    intro _
    show cbs [] = [] ++ ent (mxC c d) 0
    rw [ent_zero (u := 0) (d := 0) hm.z0 hm.z1 ⟨rfl, rfl⟩, cbs_nil]; rfl
  | succ i ih =>
    intro hi
    obtain ⟨u, hu⟩ : ∃ u, c[(i + 1) * 2]? = some u := ⟨_, List.getElem?_eq_getElem (by rw [hc.len]; omega)⟩
    obtain ⟨v, hv⟩ : ∃ v, c[(i + 1) * 2 + 1]? = some v := ⟨_, List.getElem?_eq_getElem (by rw [hc.len]; omega)⟩
    obtain ⟨u', hu'⟩ : ∃ u, d[(i + 1) * 2]? = some u := ⟨_, List.getElem?_eq_getElem (by rw [hd.len]; omega)⟩
    obtain ⟨v', hv'⟩ : ∃ v, d[(i + 1) * 2 + 1]? = some v := ⟨_, List.getElem?_eq_getElem (by rw [hd.len]; omega)⟩
    have hD : mxD (pe (encC c 6)) (pe (encC d 6)) (i + 1) = ⟨i + 1, max u u', max v v'⟩ := by
      unfold mxD
      rw [cnt_enc' hc ⟨by omega, hi⟩ hu hv, cnt_enc' hd ⟨by omega, hi⟩ hu' hv']
    show cbs (bE _ _ i ++ (if (mxD (pe (encC c 6)) (pe (encC d 6)) (i + 1)).up = 0 ∧ (mxD (pe (encC c 6)) (pe (encC d 6)) (i + 1)).down = 0 then [] else [mxD (pe (encC c 6)) (pe (encC d 6)) (i + 1)])) = encC (mxC c d) (i + 1) ++ ent (mxC c d) (i + 1)
    rw [hD, ← ih (by omega)]
    by_cases z : max u u' = 0 ∧ max v v' = 0
    · rw [if_pos z, ent_zero (mxC_get hu hu') (mxC_get hv hv') z, List.append_nil, List.append_nil]
    · rw [if_neg z, ent_some (mxC_get hu hu') (mxC_get hv hv') z, cbs_snoc]; rfl
theorem flat_few : ∀ rs : List Nat, rs.length ≤ (flat rs).length
  | [] => Nat.zero_le _
  | x :: A => by
    have := flat_few A
    have := enc_pos x
    rw [flat_clen, List.length_cons]; omega
theorem t3_of {v : Va} (hv : v.ok) {fs cs rs : List A} {n1 n2 n3 : Nat} {Y : List Nat} {X : List Cn} {Z : List Nat} (hf : fs = f64s (v.fl ++ Y)) (hc : cs = cts (v.ct ++ X)) (hr : rs = i32s (v.ru ++ Z)) (h1 : n1 = v.fl.length) (h2 : n2 = v.ct.length) (h3 : n3 = v.ru.length) : T3 100 v.fl v.ct v.ru fs cs rs n1 n2 n3 := by
  refine ⟨⟨Y, hf⟩, ⟨X, hc⟩, ⟨Z, hr⟩, h1, h2, h3, ?_, ?_, ?_, ?_⟩
  · cases v with
    | flag b => exact ⟨by simp [Va.fl], by simp [Va.ct], by simp [Va.ru]⟩
    | real u => exact ⟨by simp [Va.fl], by simp [Va.ct], by simp [Va.ru]⟩
    | tally c => exact ⟨by simp [Va.fl], by have := pe_len (encC c 6); have := enc_le c; simp only [Va.ct]; omega, by simp [Va.ru]⟩
    | runes rl => exact ⟨by simp [Va.fl], by simp [Va.ct], by have := flat_few rl; have := hv.2.2; simp only [Va.ru]; omega⟩
    | corner u w => exact ⟨by simp [Va.fl], by simp [Va.ct], by simp [Va.ru]⟩
  · cases v with
    | real u => intro x hx; rw [List.mem_singleton.1 hx]; exact hv
    | corner u w =>
      intro x hx
      rcases List.mem_cons.1 hx with rfl | hx
      · exact hv.1
      · rw [List.mem_singleton.1 hx]; exact hv.2
    | _ => intro x hx; cases hx
  · cases v with
    | tally c => exact pe_lt _
    | _ => intro x hx; cases hx
  · cases v with
    | runes rl => exact vr_lt hv.1
    | _ => intro x hx; cases hx
section
variable {ro : Addr → A → Prop}
/-- Apart: things of three rows. -/
theorem apartT (L : List UInt8) {K : V → Hp → Prop}
    (hK0 : ¬ IsVa L → K (.g [.int .u8 0, .bool false, .slc 0 0 0 0, .slc 1 0 0 0, .slc 2 0 0 0]) [.cells [] 23 false, .cells [] 104 false, .cells [] 21 false])
    (hK1 : ∀ v : Va, v.ok → L = v.bytes → ∀ fs cs rs n1 c1 n2 c2 n3 c3 m1 m2 m3, T3 100 v.fl v.ct v.ru fs cs rs n1 n2 n3 → K (.g [.int .u8 (v.kind.toNat : Int), .bool v.on, .slc 0 0 n1 c1, .slc 1 0 n2 c2, .slc 2 0 n3 c3]) [.cells fs 23 m1, .cells cs 104 m2, .cells rs 21 m3]) :
    Go.Eng.Fn Tryd.prog ro 32 [.a (.str (bs L))] [] K := by
  refine Fn.weak ?_
  refine Fn.ghost ?_
  refine apartAll L (fun h => ?_) (fun v hv e h3 fs rs Y X n1 c1 n c mk1 mk hfs hn1 hrs hn => ?_) (fun d hd e rs X n cap mk hrs hn hcap => ?_)
  · exact ⟨0, .g [.int .u8 0, .bool false, .slc 0 0 0 0, .slc 1 0 0 0, .slc 2 0 0 0], [.cells [] 23 false, .cells [] 104 false, .cells [] 21 false], rfl, rfl, ⟨rfl, rfl, rfl, trivial⟩, rfl,
      keepOf (v₀ := .g [.int .u8 0, .bool false, .slc 0 0 0 0, .slc 1 0 0 0, .slc 2 0 0 0]) [.cells [] 23 false, .cells [] 104 false, .cells [] 21 false] [0, 1, 2] rfl ⟨rfl, rfl, rfl, trivial⟩ rfl (hK0 h)⟩
  · have hp := i32s_pl hrs
    have hfp := f64s_pl hfs
    have hct : v.ct = [] := by cases v <;> first | rfl | exact absurd rfl h3
    exact ⟨2, .g [.int .u8 (v.kind.toNat : Int), .bool v.on, .slc 0 0 n1 c1, .slc 2 0 0 0, .slc 1 0 n c], [.cells fs 23 mk1, .cells rs 21 mk, .cells [] 104 false], rfl, rfl, ⟨ung_pl hfp.1 _ _ _, ung_pl hp.1 _ _ _, rfl, trivial⟩, (by simp [frmOk, V.okb, A.okb, Ob.okb, hp.2, hfp.2] <;> decide),
      keepOf (v₀ := .g [.int .u8 (v.kind.toNat : Int), .bool v.on, .slc 0 0 n1 c1, .slc 1 0 0 0, .slc 2 0 n c]) [.cells fs 23 mk1, .cells [] 104 false, .cells rs 21 mk] [0, 2, 1] rfl ⟨ren_pl hfp _ _ _, rfl, ren_pl hp _ _ _, trivial⟩ (by simp [nodupb, baseb, Ob.okb, frmOk, V.okb, A.okb, hp.2, hfp.2] <;> decide)
        (hK1 v hv e fs [] rs n1 c1 0 0 n c mk1 false mk (t3_of hv (X := []) hfs (by rw [hct, List.append_nil, cts_nil]) hrs hn1 (by rw [hct]; rfl) hn))⟩
  · have hp := cts_pl hrs
    exact ⟨1, .g [.int .u8 3, .bool false, .slc 1 0 0 0, .slc 0 0 n cap, .slc 2 0 0 0], [.cells rs 104 mk, .cells [] 23 false, .cells [] 21 false], rfl, rfl, ⟨ung_pl hp.1 _ _ _, rfl, rfl, trivial⟩, (by simp [frmOk, V.okb, A.okb, Ob.okb, hp.2] <;> decide),
      keepOf (v₀ := .g [.int .u8 3, .bool false, .slc 0 0 0 0, .slc 1 0 n cap, .slc 2 0 0 0]) [.cells [] 23 false, .cells rs 104 mk, .cells [] 21 false] [1, 0, 2] rfl ⟨rfl, ren_pl hp _ _ _, rfl, trivial⟩ (by simp [nodupb, baseb, Ob.okb, frmOk, V.okb, A.okb, hp.2] <;> decide)
        (hK1 (.tally d) hd e [] rs [] 0 0 n cap 0 0 false mk false (t3_of (v := .tally d) hd (Y := []) (Z := []) f64s_nil.symm hrs i32s_nil.symm rfl hn rfl))⟩
end
end Go.Proofs.YtimddbgnaeeggaaDoor.KD
namespace Go.Proofs.YtimddbgnaeeggaaDoor.KD
open Go.Eng
set_option maxRecDepth 100000
theorem flF_cons (v : Nat) (V : List Nat) : flF (v :: V) = be 8 (fbits v) ++ flF V := by unfold flF; rw [List.flatMap_cons]
theorem bE_nil (i : Nat) : cbs (bE [] [] i) = [] := by
  have h : bE [] [] i = [] := by
    induction i with
    | zero => rfl
    | succ i ih => show bE [] [] i ++ _ = _; rw [ih]; rfl
  rw [h, cbs_nil]
theorem told_jn {v w : Va} (hv : v.ok) (hw : w.ok) (h : v.kind = w.kind) : [v.kind] ++ onB v.kind (v.on || w.on) ++ flF (List.zipWith gt v.fl w.fl) ++ cbs (bE v.ct w.ct 5) ++ flat (insL (v.ru ++ w.ru)) = (v.jn w).bytes := by
  cases two_of h with
  | flag a b => simp [Va.kind, onB, Va.fl, Va.ct, Va.ru, Va.jn, Va.bytes, Va.on, flF_nil, bE_nil, insL, flat_nil]
  | real a b =>
    have := can_fb (can_gt hv hw)
    simp [Va.kind, onB, Va.fl, Va.ct, Va.ru, Va.jn, Va.bytes, Va.on, flF_cons, flF_nil, bE_nil, insL, flat_nil, this]
  | tally c d =>
    have := cbs_bE hv hw 5 (Nat.le_refl 5)
    simp [Va.kind, onB, Va.fl, Va.ct, Va.ru, Va.jn, Va.bytes, Va.on, flF_cons, flF_nil, insL, flat_nil, this]
  | runes r s =>
    have := insL_mg hv.2.1 hw.2.1
    simp [Va.kind, onB, Va.fl, Va.ct, Va.ru, Va.jn, Va.bytes, Va.on, flF_nil, bE_nil, this]
  | corner a b a' b' =>
    have h1 := can_fb (can_gt hv.1 hw.1)
    have h2 := can_fb (can_gt hv.2 hw.2)
    simp [Va.kind, onB, Va.fl, Va.ct, Va.ru, Va.jn, Va.bytes, Va.on, flF_cons, flF_nil, bE_nil, insL, flat_nil, h1, h2]
section
variable {ro : Addr → A → Prop}
theorem refKind (L : List UInt8) {K : V → Hp → Prop} (hK : K (.a (.int .u8 (kd L : Nat))) []) : Go.Eng.Fn Tryd.prog ro 27 [.a (.str (bs L))] [] K := by
  have kA := @apartT ro L
  have g0 := True.intro
  have g1 := True.intro
  refine Fn.weak ?_
  refine Fn.of_code (gOf []) Tryd.func27 rfl (Nat.le_of_ble_eq_true rfl) ?_
  obtain ⟨s, hs⟩ : ∃ s, s = bs L := ⟨_, rfl⟩
  rw [← hs] at kA ⊢
  conv => whnf
  skip
  refine Fn.frame [] (by rfl) (by exact trivial) (by rfl) (kA (fun hno => ?_) (fun v hv hL fs cs rs n1 c1 n2 c2 n3 c3 m1 m2 m3 hT => ?_))
  · rw [kd_no hno] at hK
    conv => whnf
    skip
    exact keepOf (v₀ := .a (.int .u8 (0 : Nat))) [] [] rfl trivial rfl hK
  · rw [kd_va hv hL] at hK
    obtain ⟨Yf, hfs⟩ := hT.f
    obtain ⟨Yc, hcs⟩ := hT.c
    obtain ⟨Yr, hrs⟩ := hT.r
    have p1 := f64s_pl hfs
    have p2 := cts_pl hcs
    have p3 := i32s_pl hrs
    generalize v.kind.toNat = kv at *
    conv => whnf
    repeat' ((first | (with_reducible first | refine y'5 ‹_› ?_ | refine y'6 ‹_› ?_) | fail) <;> (conv => whnf))
    exact keepOf (v₀ := .a (.int .u8 (kv : Nat))) [] [] rfl trivial rfl hK
set_option maxHeartbeats 4000000 in
theorem refJoin (L M : List UInt8) {K : V → Hp → Prop} (hK : K (.t [.a (.str (bs (jnB L M).1)), .a (.int .i64 (jnB L M).2)]) []) :
    Go.Eng.Fn Tryd.prog ro 26 [.a (.str (bs L)), .a (.str (bs M))] [] K := by
  have kA := @apartT ro L
  have kB := @apartT ro M
  have g0 := True.intro
  have g1 := True.intro
  refine Fn.weak ?_
  refine Fn.of_code (gOf []) Tryd.func26 rfl (Nat.le_of_ble_eq_true rfl) ?_
  obtain ⟨x, hx⟩ : ∃ x, x = bs L := ⟨_, rfl⟩
  obtain ⟨y, hy⟩ : ∃ y, y = bs M := ⟨_, rfl⟩
  rw [← hx] at kA ⊢
  rw [← hy] at kB ⊢
  conv => whnf
  skip
  refine Fn.frame [] (by rfl) (by exact trivial) (by rfl) (kA (fun hno => ?_) (fun v hv hL fs cs rs n1 c1 n2 c2 n3 c3 m1 m2 m3 hT => ?_))
  · rw [jnB_no (fun v w h => hno ⟨v, h.1, h.2.2.2.1⟩)] at hK
    conv => whnf
    skip
    refine Fn.frame [] (by rfl) (by exact trivial) (by rfl) (kB (fun hno' => ?_) (fun w hw hM fs' cs' rs' l1 d1 l2 d2 l3 d3 o1 o2 o3 hS => ?_))
    ·
      conv => whnf
      skip
      exact keepOf (v₀ := .t [.a (.str (bs [])), .a (.int .i64 120)]) [] [] rfl trivial rfl hK
    · obtain ⟨Zf, hfs'⟩ := hS.f
      obtain ⟨Zc, hcs'⟩ := hS.c
      obtain ⟨Zr, hrs'⟩ := hS.r
      have p4 := f64s_pl hfs'
      have p5 := cts_pl hcs'
      have p6 := i32s_pl hrs'
      conv => whnf
      repeat' ((first | (with_reducible first | refine y'5 ‹_› ?_ | refine y'6 ‹_› ?_) | fail) <;> (conv => whnf))
      exact keepOf (v₀ := .t [.a (.str (bs [])), .a (.int .i64 120)]) [] [] rfl trivial rfl hK
  · obtain ⟨kv, hkv⟩ : ∃ k : Nat, k = v.kind.toNat := ⟨_, rfl⟩
    have hk0 : ((kv : Int) == 0) = false := by have := v.kind_ne; rw [← hkv] at this; simp; omega
    rw [← hkv]
    obtain ⟨Yf, hfs⟩ := hT.f
    obtain ⟨Yc, hcs⟩ := hT.c
    obtain ⟨Yr, hrs⟩ := hT.r
    have p1 := f64s_pl hfs
    have p2 := cts_pl hcs
    have p3 := i32s_pl hrs
    conv => whnf
    repeat' ((first | (with_reducible first | refine y'5 ‹_› ?_ | refine y'6 ‹_› ?_) | fail) <;> (conv => whnf))
    refine Fn.frame [] (by rfl) (by exact trivial) (by rfl) (kB (fun hno' => ?_) (fun w hw hM fs' cs' rs' l1 d1 l2 d2 l3 d3 o1 o2 o3 hS => ?_))
    · rw [jnB_no (fun v w h => hno' ⟨w, h.2.1, h.2.2.2.2⟩)] at hK
      have hk1 : ((kv : Int) != 0) = true := by rw [bne, hk0]; rfl
      conv => whnf
      repeat' ((first | (with_reducible refine y'b ‹_› ?_) | (with_reducible refine y'5 ‹_› ?_) | fail) <;> (conv => whnf))
      exact keepOf (v₀ := .t [.a (.str (bs [])), .a (.int .i64 120)]) [] [] rfl trivial rfl hK
    · obtain ⟨kw, hkw⟩ : ∃ k : Nat, k = w.kind.toNat := ⟨_, rfl⟩
      rw [← hkw]
      obtain ⟨Zf, hfs'⟩ := hS.f
      obtain ⟨Zc, hcs'⟩ := hS.c
      obtain ⟨Zr, hrs'⟩ := hS.r
      have p4 := f64s_pl hfs'
      have p5 := cts_pl hcs'
      have p6 := i32s_pl hrs'
      by_cases hk : v.kind = w.kind
      · have hk1 : ((kv : Int) != (kw : Int)) = false := by rw [hkv, hkw, hk]; simp
        have hp : Pr L M v w := ⟨hv, hw, hk, hL, hM⟩
        rw [jnB_va hp] at hK
        have htj := told_jn hv hw hk
        have hln := jn_len hv hw hk
        have hvv : v.fl.length = w.fl.length := by cases two_of hk <;> rfl
        conv => whnf
        repeat' ((first | (with_reducible refine y'b ‹_› ?_) | (with_reducible first | refine y'5 ‹_› ?_ | refine y'6 ‹_› ?_) | fail) <;> (conv => whnf))
        refine Fn.frame [0, 1, 2, 4, 5, 6] (by rfl) (by exact ⟨ren_pl p1 _ _ _, ren_pl p2 _ _ _, ren_pl p3 _ _ _, ren_pl p4 _ _ _, ren_pl p5 _ _ _, ren_pl p6 _ _ _, trivial⟩) (by simp [nodupb, V.okb, A.okb, Ob.okb, p1.2, p2.2, p3.2, p4.2, p5.2, p6.2] <;> decide) (both57 kv kw v.on w.on v.fl w.fl v.ct w.ct v.ru w.ru fs cs rs fs' cs' rs' n1 c1 n2 c2 n3 c3 l1 d1 l2 d2 l3 d3 m1 m2 m3 o1 o2 o3 hT hS hvv (fun ff cc rr i1 j1 i2 j2 i3 j3 x1 x2 x3 hU => ?_))
        obtain ⟨Uf, hff⟩ := hU.f
        obtain ⟨Uc, hcc⟩ := hU.c
        obtain ⟨Ur, hrr⟩ := hU.r
        have u1 := f64s_pl hff
        have u2 := cts_pl hcc
        have u3 := i32s_pl hrr
        have fU := hU.few
        have e1 := hU.h1
        have e2 := hU.h2
        have e3 := hU.h3
        conv => whnf
        repeat' ((first | (with_reducible refine y'6 ‹_› ?_) | fail) <;> (conv => whnf))
        refine Fn.frame [8, 9, 10] (by rw [hkv]; rfl) (by exact ⟨ren_pl u1 _ _ _, ren_pl u2 _ _ _, ren_pl u3 _ _ _, trivial⟩) (by simp [nodupb, V.okb, A.okb, Ob.okb, u1.2, u2.2, u3.2] <;> decide) (toldG v.kind (v.on || w.on) _ Uf _ Uc _ Ur ff cc rr i1 j1 i2 j2 i3 j3 x1 x2 x3 hff e1 (by omega) (fun x hx => (hU.can x hx).1) hcc e2 (by omega) hU.lt hrr e3 (by omega) hU.run ?_)
        rw [htj]
        have hsz : (bs (v.jn w).bytes).size = (v.jn w).bytes.length := bs_size _
        by_cases hl : (v.jn w).bytes.length ≤ 40
        · rw [if_pos hl] at hK
          have c9 : decide (((bs (v.jn w).bytes).size : Int) > 40) = false := decide_eq_false (by omega)
          generalize bs (v.jn w).bytes = u at *
          conv => whnf
          repeat' ((first | (with_reducible refine y'b ‹_› ?_) | (with_reducible first | refine y'5 ‹_› ?_ | refine y'6 ‹_› ?_) | fail) <;> (conv => whnf))
          exact keepOf (v₀ := .t [.a (.str u), .a (.int .i64 0)]) [] [] rfl trivial rfl hK
        · rw [if_neg hl] at hK
          have c9 : decide (((bs (v.jn w).bytes).size : Int) > 40) = true := decide_eq_true (by omega)
          generalize bs (v.jn w).bytes = u at *
          conv => whnf
          repeat' ((first | (with_reducible refine y'b ‹_› ?_) | (with_reducible first | refine y'5 ‹_› ?_ | refine y'6 ‹_› ?_) | fail) <;> (conv => whnf))
          exact keepOf (v₀ := .t [.a (.str (bs [])), .a (.int .i64 82)]) [] [] rfl trivial rfl hK
      · have hk1 : ((kv : Int) != (kw : Int)) = true := by
          rw [hkv, hkw]
          have : v.kind.toNat ≠ w.kind.toNat := fun h => hk (UInt8.toNat_inj.1 h)
          simp; omega
        rw [jnB_no (fun v' w' h => hk (by rw [Va.inj hv h.1 (hL.symm.trans h.2.2.2.1), Va.inj hw h.2.1 (hM.symm.trans h.2.2.2.2)]; exact h.2.2.1))] at hK
        conv => whnf
        repeat' ((first | (with_reducible refine y'b ‹_› ?_) | (with_reducible first | refine y'5 ‹_› ?_ | refine y'6 ‹_› ?_) | fail) <;> (conv => whnf))
        exact keepOf (v₀ := .t [.a (.str (bs [])), .a (.int .i64 120)]) [] [] rfl trivial rfl hK
set_option maxHeartbeats 1000000 in
theorem refBelow (L M : List UInt8) {K : V → Hp → Prop} (hK : K (.a (.bool (blB L M))) []) :
    Go.Eng.Fn Tryd.prog ro 28 [.a (.str (bs L)), .a (.str (bs M))] [] K := by
  have g0 := True.intro
  have g1 := True.intro
  have kJ := @refJoin ro L M
  have hb := blB_iff L M
  have hz := law_errs L M
  obtain ⟨b, hbb⟩ : ∃ b, b = blB L M := ⟨_, rfl⟩
  obtain ⟨⟨u, e⟩, hue⟩ : ∃ p, p = jnB L M := ⟨_, rfl⟩
  rw [← hbb] at hK hb
  rw [← hue] at kJ hb hz
  refine Fn.weak ?_
  refine Fn.of_code (gOf []) Tryd.func28 rfl (Nat.le_of_ble_eq_true rfl) ?_
  have c1 : e = 0 → ((bs u).data.toList == (bs M).data.toList) = b := fun h => by
    rw [beqL]
    cases b with
    | true => exact decide_eq_true ((hb.1 rfl).2)
    | false => exact decide_eq_false (fun h' => by have := hb.2 ⟨h, h'⟩; cases this)
  generalize bs L = x at *
  generalize bs M = y at *
  generalize bs u = z at *
  by_cases h : e = 0
  · have c2 := c1 h
    have c0 : (e == 0) = true := by simp [h]
    conv => whnf
    skip
    refine Fn.frame [] (by rfl) (by exact trivial) (by rfl) (kJ ?_)
    conv => whnf
    repeat' ((first | (with_reducible refine y'b ‹_› ?_) | fail) <;> (conv => whnf))
    exact keepOf (v₀ := .a (.bool b)) [] [] (congrArg (fun b => V.a (.bool b)) c2) trivial rfl hK
  · have c0 : (e == 0) = false := by simp [h]
    have hbf : b = false := by
      cases b with
      | true => exact absurd (hb.1 rfl).1 h
      | false => rfl
    subst hbf
    conv => whnf
    skip
    refine Fn.frame [] (by rfl) (by exact trivial) (by rfl) (kJ ?_)
    conv => whnf
    repeat' ((first | (with_reducible refine y'b ‹_› ?_) | fail) <;> (conv => whnf))
    exact keepOf (v₀ := .a (.bool false)) [] [] rfl trivial rfl hK
end
end Go.Proofs.YtimddbgnaeeggaaDoor.KD
namespace Go.Proofs.YtimddbgnaeeggaaDoor.KD
open Go.Eng
set_option maxRecDepth 100000
section
variable {ro : Addr → A → Prop}
set_option maxHeartbeats 4000000 in
theorem joins5 (hT : Tabs ro) (L M : List UInt8) :
    Go.Eng.Fn Tryd.prog ro 5 [.a (.str (bs L)), .a (.str (bs M))] [] (fun v _ => v = .a (.bool true)) := by
  have k1 := @joinB ro hT L M
  have k2 := @joinB ro hT M L
  have k3 := @refJoin ro L M
  have k4 := @refJoin ro M L
  have k5 := @kindB ro L
  have k6 := @kindB ro M
  have k7 := @refKind ro L
  have k8 := @refKind ro M
  have k9 := @belowB ro hT L M
  have kA := @belowB ro hT M L
  have kB := @refBelow ro L M
  have kC := @refBelow ro M L
  have hS : ∀ x : ByteArray, (!(x.data.toList == x.data.toList)) = false := fun x => by simp
  have hI : ∀ x : Int, (x != x) = false := fun x => by simp
  have hB : ∀ x : Bool, (x == x) = true := fun x => by simp
  obtain ⟨x, hx⟩ : ∃ x, x = bs L := ⟨_, rfl⟩
  obtain ⟨y, hy⟩ : ∃ y, y = bs M := ⟨_, rfl⟩
  rw [← hx] at k1 k2 k3 k4 k5 k7 k9 kA kB kC ⊢
  rw [← hy] at k1 k2 k3 k4 k6 k8 k9 kA kB kC ⊢
  generalize bs (jnB L M).1 = u1 at *
  generalize bs (jnB M L).1 = u2 at *
  generalize (jnB L M).2 = e1 at *
  generalize (jnB M L).2 = e2 at *
  generalize ((kd L : Nat) : Int) = q1 at *
  generalize ((kd M : Nat) : Int) = q2 at *
  generalize blB L M = b1 at *
  generalize blB M L = b2 at *
  have f1 := hS u1
  have f2 := hS u2
  have f3 := hI e1
  have f4 := hI e2
  have f5 := hI q1
  have f6 := hI q2
  have f7 := hB b1
  have f8 := hB b2
  clear hS hI hB hx hy
  refine Fn.of_code (gOf []) Tryd.func5 rfl (Nat.le_of_ble_eq_true rfl) ?_
  conv => whnf
  repeat' ((first | ((with_reducible refine y'r ?_ ?_); (· decide +kernel)) | ((with_reducible refine y'g ?_ ?_); (· exact ⟨_, rfl⟩)) | (with_reducible first | refine y'b ‹_› ?_ | refine y'n ‹_› ?_ | refine y'1 ‹_› ?_ | refine y'2 ‹_› ?_ | refine y'3 ?_ | refine y'4 ?_) | ((with_reducible refine y'n ?_ ?_); (· first | with_reducible assumption | exact decide_eq_true (by omega) | decide +kernel)) | (with_reducible first | refine y'n (y'7 ‹_› ‹_›) ?_ | refine y'v (y'8 ‹_› ‹_›) (fun s hs => ?_)) | ((with_reducible refine y'p ?_ ?_); (· rfl)) | ((with_reducible refine y'q ?_ ?_); (· rfl)) | (refine Fn.frame [] (by rfl) (by exact trivial) (by rfl) (k1 ?_)) | (refine Fn.frame [] (by rfl) (by exact trivial) (by rfl) (k2 ?_)) | (refine Fn.frame [] (by rfl) (by exact trivial) (by rfl) (k3 ?_)) | (refine Fn.frame [] (by rfl) (by exact trivial) (by rfl) (k4 ?_)) | (refine Fn.frame [] (by rfl) (by exact trivial) (by rfl) (k5 ?_)) | (refine Fn.frame [] (by rfl) (by exact trivial) (by rfl) (k6 ?_)) | (refine Fn.frame [] (by rfl) (by exact trivial) (by rfl) (k7 ?_)) | (refine Fn.frame [] (by rfl) (by exact trivial) (by rfl) (k8 ?_)) | (refine Fn.frame [] (by rfl) (by exact trivial) (by rfl) (k9 ?_)) | (refine Fn.frame [] (by rfl) (by exact trivial) (by rfl) (kA ?_)) | (refine Fn.frame [] (by rfl) (by exact trivial) (by rfl) (kB ?_)) | (refine Fn.frame [] (by rfl) (by exact trivial) (by rfl) (kC ?_)) | (refine Fn.frame [] (by rfl) (by exact trivial) (by rfl) (alive25 ?_)) | fail) <;> (conv => whnf))
end
theorem topJoins (W : World) (hL : laidMetH Tryd.prog Rows.kindsJoinsRow.laid W) (s : ByteArray) (_ : s.size ≤ 140737488351232) (t : ByteArray) (_ : t.size ≤ 140737488351232) :
    Go.Eng.Fn Tryd.prog (roOf W) 5 [.a (.str s), .a (.str t)] [] (fun v _ => v = .a (.bool true)) := by
  rw [bs_eq s, bs_eq t]
  exact joins5 (tabs_of hL) _ _
end Go.Proofs.YtimddbgnaeeggaaDoor.KD
