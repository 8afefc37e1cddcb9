import Derived.Test.YtimddbgnaeeggaaDoorUD
import Derived.Test.YtimddbgnaeeggaaDoorKJ
import Derived.Test.YtimddbgnaeeggaaDoorKN
import Derived.Test.YtimddbgnaeeggaaDoorKP
import Derived.Test.YtimddbgnaeeggaaDoorUA
import Derived.Test.YtimddbgnaeeggaaDoorRows
import Derived.Lib.LaidIn
import Derived.Lib.LaidU8T
import Derived.Test.YtimddbgnaeeggaaDoorRP
import Derived.Test.YtimddbgnaeeggaaDoorKT
namespace Go.Proofs.YtimddbgnaeeggaaDoor.KD
open Go.Eng
set_option maxRecDepth 100000
/-! ### The join of values, plainly. -/
theorem mg_mem : ∀ (a b : List Nat) (r : Nat), r ∈ mg a b ↔ r ∈ a ∨ r ∈ b
  | [], b, r => by rw [mg_nil]; simp
  | x :: a, [], r => by rw [mg_nil2]; simp
  | x :: a, y :: b, r => by
    rcases Nat.lt_trichotomy x y with h | h | h
    · rw [mg_lt a b h, List.mem_cons, mg_mem a (y :: b) r, List.mem_cons, List.mem_cons]
      constructor
      · rintro (h | h | h | h) <;> simp [h]
      · rintro ((h | h) | h | h) <;> simp [h]
    · subst h
      rw [mg_eq, List.mem_cons, mg_mem a b r, List.mem_cons, List.mem_cons]
      constructor
      · rintro (h | h | h) <;> simp [h]
      · rintro ((h | h) | h | h) <;> simp [h]
    · rw [mg_gt a b h, List.mem_cons, mg_mem (x :: a) b r, List.mem_cons, List.mem_cons]
      constructor
      · rintro (h | (h | h) | h) <;> simp [h]
      · rintro ((h | h) | h | h) <;> simp [h]
termination_by a b => a.length + b.length
theorem mg_rise : ∀ {a b : List Nat}, Rise a → Rise b → Rise (mg a b)
  | [], b, _, hb => by rw [mg_nil]; exact hb
  | x :: a, [], ha, _ => by rw [mg_nil2]; exact ha
  | x :: a, y :: b, ha, hb => by
    have ha' := List.pairwise_cons.1 ha
    have hb' := List.pairwise_cons.1 hb
    rcases Nat.lt_trichotomy x y with h | h | h
    · rw [mg_lt a b h]
      refine List.pairwise_cons.2 ⟨fun r hr => ?_, mg_rise ha'.2 hb⟩
      rcases (mg_mem _ _ _).1 hr with hr | hr
      · exact ha'.1 r hr
      · rcases List.mem_cons.1 hr with rfl | hr
        · exact h
        · have := hb'.1 r hr; omega
    · subst h
      rw [mg_eq]
      refine List.pairwise_cons.2 ⟨fun r hr => ?_, mg_rise ha'.2 hb'.2⟩
      rcases (mg_mem _ _ _).1 hr with hr | hr
      · exact ha'.1 r hr
      · exact hb'.1 r hr
    · rw [mg_gt a b h]
      refine List.pairwise_cons.2 ⟨fun r hr => ?_, mg_rise ha hb'.2⟩
      rcases (mg_mem _ _ _).1 hr with hr | hr
      · rcases List.mem_cons.1 hr with rfl | hr
        · exact h
        · have := ha'.1 r hr; omega
      · exact hb'.1 r hr
termination_by a b => a.length + b.length
theorem rise_ext : ∀ {a b : List Nat}, Rise a → Rise b → (∀ r, r ∈ a ↔ r ∈ b) → a = b
  | [], [], _, _, _ => rfl
  | [], y :: b, _, _, h => by have := (h y).2 (by simp); simp at this
  | x :: a, [], _, _, h => by have := (h x).1 (by simp); simp at this
  | x :: a, y :: b, ha, hb, h => by
    have ha' := List.pairwise_cons.1 ha
    have hb' := List.pairwise_cons.1 hb
    have e : x = y := by
      rcases List.mem_cons.1 ((h x).1 (by simp)) with e | e
      · exact e
      · rcases List.mem_cons.1 ((h y).2 (by simp)) with e' | e'
        · exact e'.symm
        · have h1 := hb'.1 x e; have h2 := ha'.1 y e'; omega
    subst e
    rw [rise_ext ha'.2 hb'.2 (fun r => ?_)]
    constructor
    · intro hr
      rcases List.mem_cons.1 ((h r).1 (by simp [hr])) with e | e
      · have := ha'.1 r hr; omega
      · exact e
    · intro hr
      rcases List.mem_cons.1 ((h r).2 (by simp [hr])) with e | e
      · have := hb'.1 r hr; omega
      · exact e
theorem mg_allv {a b : List Nat} (ha : AllV a) (hb : AllV b) : AllV (mg a b) := fun r hr => by
  rcases (mg_mem _ _ _).1 hr with h | h
  · exact ha r h
  · exact hb r h
theorem mg_comm {a b : List Nat} (ha : Rise a) (hb : Rise b) : mg a b = mg b a :=
  rise_ext (mg_rise ha hb) (mg_rise hb ha) (fun r => by rw [mg_mem, mg_mem]; exact Or.comm)
theorem mg_idem {a : List Nat} (ha : Rise a) : mg a a = a := rise_ext (mg_rise ha ha) ha (fun r => by rw [mg_mem]; simp)
theorem mg_assoc {a b c : List Nat} (ha : Rise a) (hb : Rise b) (hc : Rise c) : mg (mg a b) c = mg a (mg b c) :=
  rise_ext (mg_rise (mg_rise ha hb) hc) (mg_rise ha (mg_rise hb hc)) (fun r => by rw [mg_mem, mg_mem, mg_mem, mg_mem]; exact or_assoc)
def Va.jn : Va → Va → Va
  | .flag a, .flag b => .flag (a || b)
  | .real u, .real w => .real (gt u w)
  | .tally c, .tally d => .tally (mxC c d)
  | .runes r, .runes s => .runes (mg r s)
  | .corner u w, .corner u' w' => .corner (gt u u') (gt w w')
  | v, _ => v
theorem gt_idem (u : Nat) : gt u u = u := by unfold gt; split <;> rfl
theorem gt_assoc (u v w : Nat) : gt (gt u v) w = gt u (gt v w) := by
  unfold gt
  by_cases h1 : rk v < rk u
  · by_cases h2 : rk w < rk v
    · rw [if_pos h1, if_pos h2, if_pos h1, if_pos (by omega)]
    · rw [if_pos h1, if_neg h2]
  · by_cases h2 : rk w < rk v
    · rw [if_neg h1, if_pos h2, if_neg h1]
    · rw [if_neg h1, if_neg h2, if_neg (by omega)]
theorem mxC_comm (c d : List Nat) : mxC c d = mxC d c := by
  unfold mxC
  induction c generalizing d with
  | nil => cases d <;> rfl
  | cons x c ih => cases d with
    | nil => rfl
    | cons y d => rw [List.zipWith_cons_cons, List.zipWith_cons_cons, ih d, Nat.max_comm]
theorem mxC_idem (c : List Nat) : mxC c c = c := by
  unfold mxC
  induction c with
  | nil => rfl
  | cons x c ih => rw [List.zipWith_cons_cons, ih, Nat.max_self]
theorem mxC_assoc (c d e : List Nat) : mxC (mxC c d) e = mxC c (mxC d e) := by
  unfold mxC
  induction c generalizing d e with
  | nil => cases d <;> cases e <;> rfl
  | cons x c ih => cases d with
    | nil => cases e <;> rfl
    | cons y d => cases e with
      | nil => rfl
      | cons z e => rw [List.zipWith_cons_cons, List.zipWith_cons_cons, List.zipWith_cons_cons, List.zipWith_cons_cons, ih d e, Nat.max_assoc]
theorem kind_1' {v : Va} (h : v.kind = 1) : ∃ b, v = .flag b := by cases v <;> first | exact ⟨_, rfl⟩ | cases h
theorem kind_2' {v : Va} (h : v.kind = 2) : ∃ b, v = .real b := by cases v <;> first | exact ⟨_, rfl⟩ | cases h
theorem kind_3' {v : Va} (h : v.kind = 3) : ∃ b, v = .tally b := by cases v <;> first | exact ⟨_, rfl⟩ | cases h
theorem kind_4' {v : Va} (h : v.kind = 4) : ∃ b, v = .runes b := by cases v <;> first | exact ⟨_, rfl⟩ | cases h
theorem kind_5' {v : Va} (h : v.kind = 5) : ∃ b c, v = .corner b c := by cases v <;> first | exact ⟨_, _, rfl⟩ | cases h
/-- Two values of a kind. -/
inductive Two : Va → Va → Prop
  | flag (a b : Bool) : Two (.flag a) (.flag b)
  | real (u w : Nat) : Two (.real u) (.real w)
  | tally (c d : List Nat) : Two (.tally c) (.tally d)
  | runes (r s : List Nat) : Two (.runes r) (.runes s)
  | corner (u w u' w' : Nat) : Two (.corner u w) (.corner u' w')
theorem two_of {v w : Va} (h : v.kind = w.kind) : Two v w := by
  cases v <;> cases w <;> first | constructor | (revert h; simp [Va.kind]; done)
theorem Va.jn_kind {v w : Va} (h : v.kind = w.kind) : (v.jn w).kind = v.kind := by
  cases two_of h <;> rfl
theorem Va.jn_comm {v w : Va} (hv : v.ok) (hw : w.ok) (h : v.kind = w.kind) : v.jn w = w.jn v := by
  cases two_of h with
  | flag a b => simp only [Va.jn]; rw [Bool.or_comm]
  | real u w => simp only [Va.jn]; rw [gt_comm hv hw]
  | tally c d => simp only [Va.jn]; rw [mxC_comm]
  | runes r s => simp only [Va.jn]; rw [mg_comm hv.2.1 hw.2.1]
  | corner u w u' w' => simp only [Va.jn]; rw [gt_comm hv.1 hw.1, gt_comm hv.2 hw.2]
theorem Va.jn_idem {v : Va} (hv : v.ok) : v.jn v = v := by
  cases v with
  | flag a => simp only [Va.jn]; rw [Bool.or_self]
  | real u => simp only [Va.jn]; rw [gt_idem]
  | tally c => simp only [Va.jn]; rw [mxC_idem]
  | runes r => simp only [Va.jn]; rw [mg_idem hv.2.1]
  | corner u w => simp only [Va.jn]; rw [gt_idem, gt_idem]
theorem Va.jn_assoc {u v w : Va} (hu : u.ok) (hv : v.ok) (hw : w.ok) (h : u.kind = v.kind) (h' : v.kind = w.kind) : (u.jn v).jn w = u.jn (v.jn w) := by
  cases two_of h with
  | flag a b => obtain ⟨c, rfl⟩ := kind_1' (v := w) h'.symm; simp only [Va.jn]; rw [Bool.or_assoc]
  | real a b => obtain ⟨c, rfl⟩ := kind_2' (v := w) h'.symm; simp only [Va.jn]; rw [gt_assoc]
  | tally a b => obtain ⟨c, rfl⟩ := kind_3' (v := w) h'.symm; simp only [Va.jn]; rw [mxC_assoc]
  | runes a b => obtain ⟨c, rfl⟩ := kind_4' (v := w) h'.symm; simp only [Va.jn]; rw [mg_assoc hu.2.1 hv.2.1 hw.2.1]
  | corner a b a' b' => obtain ⟨c, c', rfl⟩ := kind_5' (v := w) h'.symm; simp only [Va.jn]; rw [gt_assoc, gt_assoc]
theorem Va.jn_ok {v w : Va} (hv : v.ok) (hw : w.ok) (h : v.kind = w.kind) (hl : (v.jn w).bytes.length ≤ 40) : (v.jn w).ok := by
  cases two_of h with
  | flag a b => trivial
  | real a b => exact can_gt hv hw
  | tally a b => exact Ct.mx hv hw
  | runes a b => exact ⟨mg_allv hv.1 hw.1, mg_rise hv.2.1 hw.2.1, by simp only [Va.jn, Va.bytes, List.length_cons] at hl; omega⟩
  | corner a b a' b' => exact ⟨can_gt hv.1 hw.1, can_gt hv.2 hw.2⟩
/-! ### Kind, Join, Below of whatever bytes, plainly. -/
/-- Both are values, of one kind. -/
def Pr (L M : List UInt8) (v w : Va) : Prop := v.ok ∧ w.ok ∧ v.kind = w.kind ∧ L = v.bytes ∧ M = w.bytes
open Classical in
@[irreducible] noncomputable def jnB (L M : List UInt8) : List UInt8 × Int :=
  if h : ∃ p : Va × Va, Pr L M p.1 p.2 then (if ((Classical.choose h).1.jn (Classical.choose h).2).bytes.length ≤ 40 then (((Classical.choose h).1.jn (Classical.choose h).2).bytes, 0) else ([], 82)) else ([], 120)
theorem Pr.inj {L M : List UInt8} {v w v' w' : Va} (h : Pr L M v w) (h' : Pr L M v' w') : v = v' ∧ w = w' :=
  ⟨Va.inj h.1 h'.1 (h.2.2.2.1.symm.trans h'.2.2.2.1), Va.inj h.2.1 h'.2.1 (h.2.2.2.2.symm.trans h'.2.2.2.2)⟩
theorem jnB_va {L M : List UInt8} {v w : Va} (h : Pr L M v w) : jnB L M = if (v.jn w).bytes.length ≤ 40 then ((v.jn w).bytes, 0) else ([], 82) := by
  have h0 : ∃ p : Va × Va, Pr L M p.1 p.2 := ⟨(v, w), h⟩
  have hc : Pr L M (Classical.choose h0).1 (Classical.choose h0).2 := Classical.choose_spec h0
  obtain ⟨e1, e2⟩ := hc.inj h
  unfold jnB
  rw [dif_pos h0, e1, e2]
theorem jnB_no {L M : List UInt8} (h : ∀ v w, ¬ Pr L M v w) : jnB L M = ([], 120) := by
  unfold jnB
  rw [dif_neg (fun ⟨p, hp⟩ => h p.1 p.2 hp)]
inductive Jn (L M : List UInt8) : Prop
  | big (v w : Va) (h : Pr L M v w) (hl : ¬ (v.jn w).bytes.length ≤ 40) (e : jnB L M = ([], 82))
  | val (v w : Va) (h : Pr L M v w) (hl : (v.jn w).bytes.length ≤ 40) (e : jnB L M = ((v.jn w).bytes, 0))
  | no (h : ∀ v w, ¬ Pr L M v w) (e : jnB L M = ([], 120))
theorem jn_cases (L M : List UInt8) : Jn L M := by
  by_cases h : ∃ p : Va × Va, Pr L M p.1 p.2
  · obtain ⟨⟨v, w⟩, h⟩ := h
    have e := jnB_va h
    by_cases hl : (v.jn w).bytes.length ≤ 40
    · rw [if_pos hl] at e; exact .val v w h hl e
    · rw [if_neg hl] at e; exact .big v w h hl e
  · have h' : ∀ v w, ¬ Pr L M v w := fun v w hp => h ⟨(v, w), hp⟩
    exact .no h' (jnB_no h')
open Classical in
@[irreducible] noncomputable def blB (L M : List UInt8) : Bool := decide ((jnB L M).2 = 0 ∧ (jnB L M).1 = M)
theorem blB_iff (L M : List UInt8) : blB L M = true ↔ (jnB L M).2 = 0 ∧ (jnB L M).1 = M := by unfold blB; exact decide_eq_true_iff
theorem blB_va {L M : List UInt8} (h : blB L M = true) : ∃ v w, Pr L M v w ∧ v.jn w = w := by
  rw [blB_iff] at h
  rcases jn_cases L M with ⟨v, w, hp, hl, e⟩ | ⟨v, w, hp, hl, e⟩ | ⟨hp, e⟩
  · rw [e] at h; exact absurd h.1 (by show ¬ ((82 : Int) = 0); decide)
  · rw [e] at h
    exact ⟨v, w, hp, Va.inj (Va.jn_ok hp.1 hp.2.1 hp.2.2.1 hl) hp.2.1 (h.2.trans hp.2.2.2.2)⟩
  · rw [e] at h; exact absurd h.1 (by show ¬ ((120 : Int) = 0); decide)
theorem blB_of {L M : List UInt8} {v w : Va} (h : Pr L M v w) (e : v.jn w = w) : blB L M = true := by
  rw [blB_iff, jnB_va h, e, if_pos (Va.len h.2.1)]
  exact ⟨rfl, h.2.2.2.2.symm⟩
theorem Pr.swap {L M : List UInt8} {v w : Va} (h : Pr L M v w) : Pr M L w v := ⟨h.2.1, h.1, h.2.2.1.symm, h.2.2.2.2, h.2.2.2.1⟩
/-! ### The laws. -/
theorem law_comm (L M : List UInt8) : jnB M L = jnB L M := by
  rcases jn_cases L M with ⟨v, w, hp, hl, e⟩ | ⟨v, w, hp, hl, e⟩ | ⟨hp, e⟩
  · rw [e, jnB_va hp.swap, ← Va.jn_comm hp.1 hp.2.1 hp.2.2.1, if_neg hl]
  · rw [e, jnB_va hp.swap, ← Va.jn_comm hp.1 hp.2.1 hp.2.2.1, if_pos hl]
  · rw [e, jnB_no (fun v w h => hp w v h.swap)]
theorem law_self {L : List UInt8} (h : kd L ≠ 0) : jnB L L = (L, 0) ∧ blB L L = true := by
  by_cases hV : IsVa L
  · obtain ⟨v, hv, e⟩ := hV
    have hp : Pr L L v v := ⟨hv, hv, rfl, e, e⟩
    refine ⟨?_, blB_of hp (Va.jn_idem hv)⟩
    rw [jnB_va hp, Va.jn_idem hv, if_pos (Va.len hv), ← e]
  · exact absurd (kd_no hV) h
theorem law_errs (L M : List UInt8) : (jnB L M).2 = 0 ∨ (jnB L M).2 = 82 ∨ (jnB L M).2 = 120 := by
  rcases jn_cases L M with ⟨v, w, hp, hl, e⟩ | ⟨v, w, hp, hl, e⟩ | ⟨hp, e⟩ <;> rw [e]
  · exact .inr (.inl rfl)
  · exact .inl rfl
  · exact .inr (.inr rfl)
theorem law_120 {L M : List UInt8} (h : (jnB L M).2 ≠ 0) : blB L M = false := by
  cases e : blB L M with
  | false => rfl
  | true => exact absurd ((blB_iff _ _).1 e).1 h
theorem law_anti {L M : List UInt8} (h : blB L M = true) (h' : blB M L = true) : L = M := by
  rw [blB_iff] at h h'
  rw [law_comm L M] at h'
  exact h'.2.symm.trans h.2
theorem law_up {L M : List UInt8} (h : (jnB L M).2 = 0) : kd (jnB L M).1 = kd L ∧ blB L (jnB L M).1 = true ∧ blB M (jnB L M).1 = true := by
  rcases jn_cases L M with ⟨v, w, hp, hl, e⟩ | ⟨v, w, hp, hl, e⟩ | ⟨hp, e⟩
  · rw [e] at h; exact absurd h (by show ¬ ((82 : Int) = 0); decide)
  · have hok := Va.jn_ok hp.1 hp.2.1 hp.2.2.1 hl
    have hk := Va.jn_kind hp.2.2.1
    have e1 : (jnB L M).1 = (v.jn w).bytes := by rw [e]
    refine ⟨by rw [kd_va hok e1, hk, kd_va hp.1 hp.2.2.2.1], ?_, ?_⟩
    · refine blB_of (v := v) (w := v.jn w) ⟨hp.1, hok, hk.symm, hp.2.2.2.1, e1⟩ ?_
      rw [← Va.jn_assoc hp.1 hp.1 hp.2.1 rfl hp.2.2.1, Va.jn_idem hp.1]
    · refine blB_of (v := w) (w := v.jn w) ⟨hp.2.1, hok, hp.2.2.1.symm.trans hk.symm, hp.2.2.2.2, e1⟩ ?_
      rw [Va.jn_comm hp.1 hp.2.1 hp.2.2.1, ← Va.jn_assoc hp.2.1 hp.2.1 hp.1 rfl hp.2.2.1.symm, Va.jn_idem hp.2.1]
  · rw [e] at h; exact absurd h (by show ¬ ((120 : Int) = 0); decide)
theorem val_of {L M : List UInt8} (h : (jnB L M).2 = 0) : ∃ v w, Pr L M v w ∧ (v.jn w).ok ∧ (jnB L M).1 = (v.jn w).bytes := by
  rcases jn_cases L M with ⟨v, w, hp, hl, e⟩ | ⟨v, w, hp, hl, e⟩ | ⟨hp, e⟩
  · rw [e] at h; exact absurd h (by show ¬ ((82 : Int) = 0); decide)
  · exact ⟨v, w, hp, Va.jn_ok hp.1 hp.2.1 hp.2.2.1 hl, by rw [e]⟩
  · rw [e] at h; exact absurd h (by show ¬ ((120 : Int) = 0); decide)
theorem law_lub {L M N : List UInt8} (h : (jnB L M).2 = 0) (h1 : blB L N = true) (h2 : blB M N = true) : blB (jnB L M).1 N = true := by
  obtain ⟨v, w, hp, hok, e⟩ := val_of h
  obtain ⟨v', z, hp1, e1⟩ := blB_va h1
  obtain ⟨w', z', hp2, e2⟩ := blB_va h2
  obtain rfl := Va.inj hp.1 hp1.1 (hp.2.2.2.1.symm.trans hp1.2.2.2.1)
  obtain rfl := Va.inj hp.2.1 hp2.1 (hp.2.2.2.2.symm.trans hp2.2.2.2.1)
  obtain rfl := Va.inj hp1.2.1 hp2.2.1 (hp1.2.2.2.2.symm.trans hp2.2.2.2.2)
  refine blB_of ⟨hok, hp1.2.1, (Va.jn_kind hp.2.2.1).trans hp1.2.2.1, e, hp1.2.2.2.2⟩ ?_
  rw [Va.jn_assoc hp.1 hp.2.1 hp1.2.1 hp.2.2.1 hp2.2.2.1, e2, e1]
theorem law_assoc {L M N : List UInt8} (h1 : (jnB L M).2 = 0) (h2 : (jnB M N).2 = 0) (h3 : (jnB (jnB L M).1 N).2 = 0) (h4 : (jnB L (jnB M N).1).2 = 0) : (jnB L (jnB M N).1).1 = (jnB (jnB L M).1 N).1 := by
  obtain ⟨v, w, hp, hok, e⟩ := val_of h1
  obtain ⟨w', z, hp2, hok2, e2⟩ := val_of h2
  obtain rfl := Va.inj hp.2.1 hp2.1 (hp.2.2.2.2.symm.trans hp2.2.2.2.1)
  obtain ⟨a, b, hp3, _, e3⟩ := val_of h3
  obtain ⟨c, d, hp4, _, e4⟩ := val_of h4
  obtain rfl := Va.inj hok hp3.1 (e.symm.trans hp3.2.2.2.1)
  obtain rfl := Va.inj hp2.2.1 hp3.2.1 (hp2.2.2.2.2.symm.trans hp3.2.2.2.2)
  obtain rfl := Va.inj hp.1 hp4.1 (hp.2.2.2.1.symm.trans hp4.2.2.2.1)
  obtain rfl := Va.inj hok2 hp4.2.1 (e2.symm.trans hp4.2.2.2.2)
  rw [e3, e4, Va.jn_assoc hp.1 hp.2.1 hp2.2.1 hp.2.2.1 hp2.2.2.1]
end Go.Proofs.YtimddbgnaeeggaaDoor.KD
namespace Go.Proofs.YtimddbgnaeeggaaDoor.KD
open Go.Eng
set_option maxRecDepth 100000
theorem mg_len : ∀ a b : List Nat, (flat (mg a b)).length ≤ (flat a).length + (flat b).length
  | [], b => by rw [mg_nil]; omega
  | x :: a, [] => by rw [mg_nil2]; omega
  | x :: a, y :: b => by
    have hx := flat_clen x a
    have hy := flat_clen y b
    rcases Nat.lt_trichotomy x y with h | h | h
    · rw [mg_lt a b h, flat_clen]; have := mg_len a (y :: b); omega
    · subst h; rw [mg_eq, flat_clen]; have := mg_len a b; omega
    · rw [mg_gt a b h, flat_clen]; have := mg_len (x :: a) b; omega
termination_by a b => a.length + b.length
theorem Va.kind_ne (w : Va) : w.kind.toNat ≠ 0 := by
  cases w with
  | flag b => exact (by decide : (1 : UInt8).toNat ≠ 0)
  | real b => exact (by decide : (2 : UInt8).toNat ≠ 0)
  | tally b => exact (by decide : (3 : UInt8).toNat ≠ 0)
  | runes b => exact (by decide : (4 : UInt8).toNat ≠ 0)
  | corner b c => exact (by decide : (5 : UInt8).toNat ≠ 0)
section
variable {ro : Addr → A → Prop}
set_option maxHeartbeats 1000000 in
theorem both_flag (a b : Bool) {K : V → Hp → Prop} (hK : K (.a (.str (bs (Va.flag (a || b)).bytes))) []) :
    Go.Eng.Fn Tryd.prog ro 47 [.a (.str (bs (Va.flag a).bytes)), .a (.str (bs (Va.flag b).bytes))] [] K := by
  have g0 : byteAt (bs (Va.flag a).bytes) 0 = some 1 := byteAt_bs (i := 0) rfl
  have g1 := True.intro
  refine Fn.weak ?_
  refine Fn.of_code h47 Tryd.func47 rfl (Nat.le_of_ble_eq_true rfl) ?_
  have hm : (!Op.bytesLess (bs (Va.flag a).bytes).data.toList (bs (Va.flag b).bytes).data.toList) = (a || !b) := by
    cases a <;> cases b <;> rfl
  obtain ⟨x, hx⟩ : ∃ x, x = bs (Va.flag a).bytes := ⟨_, rfl⟩
  obtain ⟨y, hy⟩ : ∃ y, y = bs (Va.flag b).bytes := ⟨_, rfl⟩
  rw [← hx] at g0 hm ⊢
  rw [← hy] at hm ⊢
  cases hab : (a || !b) with
  | true =>
    rw [hab] at hm
    have e : bs (Va.flag (a || b)).bytes = x := by rw [hx]; revert hab; cases a <;> cases b <;> first | (intro _; rfl) | (intro h; cases h)
    rw [e] at hK
    conv => whnf
    repeat' ((first | (with_reducible refine y'b ‹_› ?_) | ((with_reducible apply y'o); (· first | exact g0 | exact g1)) | fail) <;> (conv => whnf))
    exact keepOf (v₀ := .a (.str x)) [] [] rfl trivial rfl hK
  | false =>
    rw [hab] at hm
    have e : bs (Va.flag (a || b)).bytes = y := by rw [hy]; revert hab; cases a <;> cases b <;> first | (intro _; rfl) | (intro h; cases h)
    rw [e] at hK
    conv => whnf
    repeat' ((first | (with_reducible refine y'b ‹_› ?_) | ((with_reducible apply y'o); (· first | exact g0 | exact g1)) | fail) <;> (conv => whnf))
    exact keepOf (v₀ := .a (.str y)) [] [] rfl trivial rfl hK
set_option maxHeartbeats 1000000 in
theorem both_runes (hT : Tabs ro) (r s : List Nat) (hr : AllV r) (hs : AllV s) (hlr : (flat r).length ≤ 100) (hls : (flat s).length ≤ 100) {K : V → Hp → Prop} (hK : K (.a (.str (bs (4 :: flat (mg r s))))) []) :
    Go.Eng.Fn Tryd.prog ro 47 [.a (.str (bs (4 :: flat r))), .a (.str (bs (4 :: flat s)))] [] K := by
  have g0 : byteAt (bs (4 :: flat r)) 0 = some 4 := byteAt_bs (i := 0) rfl
  have g1 := True.intro
  have k := @union1 ro hT r s hr hs (by omega)
  have hx1 := bs_tail 4 (flat r)
  have hy1 := bs_tail 4 (flat s)
  have hx0 := bs_head 4 (flat r)
  have hxs : (bs (4 :: flat r)).size = (flat r).length + 1 := by rw [bs_size]; rfl
  have hys : (bs (4 :: flat s)).size = (flat s).length + 1 := by rw [bs_size]; rfl
  have c0 : decide ((0 : Int) ≤ 1 ∧ (1 : Int) ≤ ((bs (4 :: flat r)).size : Int)) = true := decide_eq_true (by omega)
  have c1 : decide ((0 : Int) ≤ 1 ∧ (1 : Int) ≤ ((bs (4 :: flat s)).size : Int)) = true := decide_eq_true (by omega)
  have hml := mg_len r s
  have hend : bs [4] ++ bs (flat (mg r s)) = bs (4 :: flat (mg r s)) := by rw [bs_append]; rfl
  have h4s : (bs [4]).size = 1 := rfl
  have hus : (bs (flat (mg r s))).size = (flat (mg r s)).length := bs_size _
  rw [← hend] at hK
  generalize bs (4 :: flat r) = x at *
  generalize bs (4 :: flat s) = y at *
  generalize bs (flat (mg r s)) = u at *
  generalize bs (flat r) = fr at *
  generalize bs (flat s) = fs at *
  generalize bs [4] = four at *
  refine Fn.weak ?_
  refine Fn.of_code h47 Tryd.func47 rfl (Nat.le_of_ble_eq_true rfl) ?_
  conv => whnf
  repeat' ((first | rw [hx0] | rw [hx1] | rw [hy1] | ((with_reducible refine y'r ?_ ?_); (· decide +kernel)) | ((with_reducible refine y'g ?_ ?_); (· exact ⟨_, rfl⟩)) | (with_reducible refine y'b ‹_› ?_) | ((with_reducible refine y'n ?_ ?_); (· first | with_reducible assumption | exact decide_eq_true (by omega) | decide +kernel)) | ((with_reducible apply y'o); (· first | exact g0 | exact g1)) | (refine Fn.frame [] (by rfl) (by exact trivial) (by rfl) (k ?_)) | fail) <;> (conv => whnf))
  exact keepOf (v₀ := .a (.str (four ++ u))) [] [] rfl trivial rfl hK
/-- both: of two values of a kind. -/
theorem bothV (hT : Tabs ro) (v w : Va) (hv : v.ok) (hw : w.ok) (h : v.kind = w.kind) {K : V → Hp → Prop} (hK : K (.a (.str (bs (v.jn w).bytes))) []) :
    Go.Eng.Fn Tryd.prog ro 47 [.a (.str (bs v.bytes)), .a (.str (bs w.bytes))] [] K := by
  cases two_of h with
  | flag a b => exact both_flag a b hK
  | real a b => exact both_real a b hv hw hK
  | tally a b => exact bothT a b hv hw hK
  | runes a b => exact both_runes hT a b hv.1 hw.1 (by have := hv.2.2; omega) (by have := hw.2.2; omega) hK
  | corner a b a' b' => exact both_corner a b a' b' hv.1 hv.2 hw.1 hw.2 hK
theorem jn_len {v w : Va} (hv : v.ok) (hw : w.ok) (h : v.kind = w.kind) : (v.jn w).bytes.length ≤ 1000 := by
  cases two_of h with
  | flag a b => simp [Va.jn, Va.bytes]
  | real a b => simp [Va.jn, Va.bytes, be_length]
  | tally a b => have := enc_le (mxC a b); simp only [Va.jn, Va.bytes, List.length_cons]; omega
  | runes a b => have := mg_len a b; have := hv.2.2; have := hw.2.2; simp only [Va.jn, Va.bytes, List.length_cons]; omega
  | corner a b a' b' => simp [Va.jn, Va.bytes, be_length]
set_option maxHeartbeats 2000000 in
theorem joinB (hT : Tabs ro) (L M : List UInt8) {K : V → Hp → Prop} (hK : K (.t [.a (.str (bs (jnB L M).1)), .a (.int .i64 (jnB L M).2)]) []) :
    Go.Eng.Fn Tryd.prog ro 17 [.a (.str (bs L)), .a (.str (bs M))] [] K := by
  have g0 := True.intro
  have g1 := True.intro
  have kL := @kindB ro L
  have kM := @kindB ro M
  have kB : ∀ v w, Pr L M v w → ∀ K, K (.a (.str (bs (v.jn w).bytes))) [] → Go.Eng.Fn Tryd.prog ro 47 [.a (.str (bs L)), .a (.str (bs M))] [] K := fun v w h K hK => by
    rw [h.2.2.2.1, h.2.2.2.2]; exact bothV hT v w h.1 h.2.1 h.2.2.1 hK
  have hz : ∀ n : Nat, n ≠ 0 → (((n : Nat) : Int) == 0) = false := fun n h => by simp; omega
  have hc := jn_cases L M
  refine Fn.weak ?_
  refine Fn.of_code (gOf []) Tryd.func17 rfl (Nat.le_of_ble_eq_true rfl) ?_
  have kp : ∀ v w, Pr L M v w → kd L = kd M ∧ kd L ≠ 0 := fun v w h => by
    rw [kd_va h.1 h.2.2.2.1, kd_va h.2.1 h.2.2.2.2, h.2.2.1]
    exact ⟨rfl, w.kind_ne⟩
  have kn : (∀ v w, ¬ Pr L M v w) → kd L = 0 ∨ kd L ≠ kd M := fun h => by
    by_cases hV : IsVa L
    · by_cases hW : IsVa M
      · obtain ⟨v, hv, e⟩ := hV
        obtain ⟨w, hw, e'⟩ := hW
        refine .inr (fun hk => h v w ⟨hv, hw, ?_, e, e'⟩)
        rw [kd_va hv e, kd_va hw e'] at hk
        exact UInt8.toNat_inj.1 hk
      · by_cases h0 : kd L = 0
        · exact .inl h0
        · exact .inr (by rw [kd_no hW]; exact h0)
    · exact .inl (kd_no hV)
  obtain ⟨x, hx⟩ : ∃ x, x = bs L := ⟨_, rfl⟩
  obtain ⟨y, hy⟩ : ∃ y, y = bs M := ⟨_, rfl⟩
  rw [← hx] at kL kB ⊢
  rw [← hy] at kM kB ⊢
  obtain ⟨kl, hkl⟩ : ∃ k, k = kd L := ⟨_, rfl⟩
  obtain ⟨km, hkm⟩ : ∃ k, k = kd M := ⟨_, rfl⟩
  rw [← hkl] at kL kp kn
  rw [← hkm] at kM kp kn
  rcases hc with ⟨v, w, hp, hl, e⟩ | ⟨v, w, hp, hl, e⟩ | ⟨hp, e⟩
  · rw [e] at hK
    obtain ⟨h1, h2⟩ := kp v w hp
    have c0 := hz kl h2
    have c1 : ((kl : Int) != (km : Int)) = false := by rw [h1]; simp
    have k3 := kB v w hp
    have hsz : (bs (v.jn w).bytes).size = (v.jn w).bytes.length := bs_size _
    have c2 : decide (((bs (v.jn w).bytes).size : Int) > 40) = true := decide_eq_true (by omega)
    generalize bs (v.jn w).bytes = u at *
    conv => whnf
    skip
    refine Fn.frame [] (by rfl) (by exact trivial) (by rfl) (kL ?_)
    conv => whnf
    repeat' ((first | (with_reducible refine y'b ‹_› ?_) | fail) <;> (conv => whnf))
    refine Fn.frame [] (by rfl) (by exact trivial) (by rfl) (kM ?_)
    conv => whnf
    repeat' ((first | (with_reducible refine y'b ‹_› ?_) | fail) <;> (conv => whnf))
    refine Fn.frame [] (by rfl) (by exact trivial) (by rfl) (k3 _ ?_)
    conv => whnf
    repeat' ((first | (with_reducible refine y'b ‹_› ?_) | fail) <;> (conv => whnf))
    exact keepOf (v₀ := .t [.a (.str (bs [])), .a (.int .i64 82)]) [] [] rfl trivial rfl hK
  · rw [e] at hK
    obtain ⟨h1, h2⟩ := kp v w hp
    have c0 := hz kl h2
    have c1 : ((kl : Int) != (km : Int)) = false := by rw [h1]; simp
    have k3 := kB v w hp
    have hsz : (bs (v.jn w).bytes).size = (v.jn w).bytes.length := bs_size _
    have c2 : decide (((bs (v.jn w).bytes).size : Int) > 40) = false := decide_eq_false (by omega)
    generalize bs (v.jn w).bytes = u at *
    conv => whnf
    skip
    refine Fn.frame [] (by rfl) (by exact trivial) (by rfl) (kL ?_)
    conv => whnf
    repeat' ((first | (with_reducible refine y'b ‹_› ?_) | fail) <;> (conv => whnf))
    refine Fn.frame [] (by rfl) (by exact trivial) (by rfl) (kM ?_)
    conv => whnf
    repeat' ((first | (with_reducible refine y'b ‹_› ?_) | fail) <;> (conv => whnf))
    refine Fn.frame [] (by rfl) (by exact trivial) (by rfl) (k3 _ ?_)
    conv => whnf
    repeat' ((first | (with_reducible refine y'b ‹_› ?_) | fail) <;> (conv => whnf))
    exact keepOf (v₀ := .t [.a (.str u), .a (.int .i64 0)]) [] [] rfl trivial rfl hK
  · rw [e] at hK
    rcases Nat.eq_zero_or_pos kl with h0 | h0
    · have c0 : ((kl : Int) == 0) = true := by rw [h0]; rfl
      conv => whnf
      skip
      refine Fn.frame [] (by rfl) (by exact trivial) (by rfl) (kL ?_)
      conv => whnf
      repeat' ((first | (with_reducible refine y'b ‹_› ?_) | fail) <;> (conv => whnf))
      exact keepOf (v₀ := .t [.a (.str (bs [])), .a (.int .i64 120)]) [] [] rfl trivial rfl hK
    · have c0 := hz kl (by omega)
      have c1 : ((kl : Int) != (km : Int)) = true := by
        rcases kn hp with h | h
        · omega
        · simp; omega
      conv => whnf
      skip
      refine Fn.frame [] (by rfl) (by exact trivial) (by rfl) (kL ?_)
      conv => whnf
      repeat' ((first | (with_reducible refine y'b ‹_› ?_) | fail) <;> (conv => whnf))
      refine Fn.frame [] (by rfl) (by exact trivial) (by rfl) (kM ?_)
      conv => whnf
      repeat' ((first | (with_reducible refine y'b ‹_› ?_) | fail) <;> (conv => whnf))
      exact keepOf (v₀ := .t [.a (.str (bs [])), .a (.int .i64 120)]) [] [] rfl trivial rfl hK
set_option maxHeartbeats 1000000 in
theorem belowB (hT : Tabs ro) (L M : List UInt8) {K : V → Hp → Prop} (hK : K (.a (.bool (blB L M))) []) :
    Go.Eng.Fn Tryd.prog ro 13 [.a (.str (bs L)), .a (.str (bs M))] [] K := by
  have g0 := True.intro
  have g1 := True.intro
  have kJ := @joinB ro hT L M
  have hb := blB_iff L M
  have hz := law_errs L M
  obtain ⟨b, hbb⟩ : ∃ b, b = blB L M := ⟨_, rfl⟩
  obtain ⟨⟨u, e⟩, hue⟩ : ∃ p, p = jnB L M := ⟨_, rfl⟩
  rw [← hbb] at hK hb
  rw [← hue] at kJ hb hz
  refine Fn.weak ?_
  refine Fn.of_code (gOf []) Tryd.func13 rfl (Nat.le_of_ble_eq_true rfl) ?_
  have c1 : e = 0 → ((bs u).data.toList == (bs M).data.toList) = b := fun h => by
    rw [beqL]
    cases b with
    | true => exact decide_eq_true ((hb.1 rfl).2)
    | false => exact decide_eq_false (fun h' => by have := hb.2 ⟨h, h'⟩; cases this)
  generalize bs L = x at *
  generalize bs M = y at *
  generalize bs u = z at *
  by_cases h : e = 0
  · have c2 := c1 h
    have c0 : (e == 0) = true := by simp [h]
    conv => whnf
    skip
    refine Fn.frame [] (by rfl) (by exact trivial) (by rfl) (kJ ?_)
    conv => whnf
    repeat' ((first | (with_reducible refine y'b ‹_› ?_) | fail) <;> (conv => whnf))
    exact keepOf (v₀ := .a (.bool b)) [] [] (congrArg (fun b => V.a (.bool b)) c2) trivial rfl hK
  · have c0 : (e == 0) = false := by simp [h]
    have hbf : b = false := by
      cases b with
      | true => exact absurd (hb.1 rfl).1 h
      | false => rfl
    subst hbf
    conv => whnf
    skip
    refine Fn.frame [] (by rfl) (by exact trivial) (by rfl) (kJ ?_)
    conv => whnf
    repeat' ((first | (with_reducible refine y'b ‹_› ?_) | fail) <;> (conv => whnf))
    exact keepOf (v₀ := .a (.bool false)) [] [] rfl trivial rfl hK
end
end Go.Proofs.YtimddbgnaeeggaaDoor.KD
namespace Go.Proofs.YtimddbgnaeeggaaDoor.KD
open Go.Eng Go.Shelf Go.Lib
set_option maxRecDepth 100000
/-- The numbers of the tables' types and variables, by the shelf's own. -/
def rho8 : Ren := ⟨fun x => x, fun x => match x with
  | 5 => 5
  | 119 => 165
  | 138 => 167
  | 139 => 168
  | _ => 0, fun x => match x with
  | 3 => 1
  | 4 => 2
  | _ => 0⟩
theorem types8 : U8Types Tryd.prog rho8 := ⟨by kernel_rfl, by kernel_rfl, by kernel_rfl, by kernel_rfl⟩
theorem extra8 : U8Extra Tryd.prog rho8 := ⟨by kernel_rfl, by kernel_rfl, by kernel_rfl, by kernel_rfl, by kernel_rfl, by kernel_rfl, by kernel_rfl⟩
theorem tabs_of {W : World} (hL : laidMetH Tryd.prog Rows.kindsLatticeRow.laid W) : Tabs (roOf W) := by
  have h : laidMet Tryd.prog Rows.kindsLatticeRow.laid W := hL
  have hT : Utf8Tabs 1 2 W := utf8Tabs_of_readsT types8 extra8 (laidMet.reads h (.tail _ (.head _))) (laidMet.reads h (.head _))
  exact ⟨fun c hc => ⟨trivial, hT.1 c hc⟩, fun i hi => ⟨trivial, (hT.2 i hi).1⟩, fun i hi => ⟨trivial, (hT.2 i hi).2⟩⟩
end Go.Proofs.YtimddbgnaeeggaaDoor.KD
namespace Go.Proofs.YtimddbgnaeeggaaDoor.KD
open Go.Eng
set_option maxRecDepth 100000
/-! ### Rows of dots and of siblings; cmp. -/
structure Dt where
  a : Int
  c : Int
structure Sb where
  d : Dt
  g : Bool
  v : List UInt8
@[reducible] def Dt.row (x : Dt) : List A := [.int .u32 x.a, .int .u64 x.c]
@[reducible] def Sb.row (x : Sb) : List A := [.int .u32 x.d.a, .int .u64 x.d.c, .bool x.g, .str (bs x.v)]
/-- A block that begins with these rows. -/
structure Rw {α : Type} (w : Nat) (row : α → List A) (D : List α) (cs : List A) : Prop where
  pl : Pl cs
  len : D.length * w ≤ cs.length
  at_ : ∀ (i : Nat) (x : α), D[i]? = some x → List.drop (i * w) (List.take (i * w + w) cs) = row x
theorem Rw.cell {α : Type} {w : Nat} {row : α → List A} {D : List α} {cs : List A} (h : Rw w row D cs) {i k : Nat} {x : α} {y : A} (hx : D[i]? = some x) (hk : k < w) (hy : (row x)[k]? = some y) : cs[i * w + k]? = some y := by
  rw [← h.at_ i x hx, List.getElem?_drop, List.getElem?_take, if_pos (by omega)] at hy
  exact hy
theorem sDot : Tryd.prog.types[76].size = 2 := rfl
theorem sSib : Tryd.prog.types[78].size = 4 := rfl
/-- What cmp.Compare answers. -/
def cmpI (a b : Int) : Int := if a < b then -1 else if b < a then 1 else 0
section
variable {ro : Addr → A → Prop}
set_option maxHeartbeats 400000 in
theorem isNaN32 (a : Int) {K : V → Hp → Prop} (hK : K (.a (.bool false)) []) : Go.Eng.Fn Tryd.prog ro 132 [.a (.int .u32 a)] [] K := by
  have c0 : (a != a) = false := by simp
  refine Fn.weak ?_
  refine Fn.of_code (gOf []) Tryd.func132 rfl (Nat.le_of_ble_eq_true rfl) ?_
  conv => whnf
  repeat' ((first | ((with_reducible refine y'r ?_ ?_); (· decide +kernel)) | ((with_reducible refine y'g ?_ ?_); (· exact ⟨_, rfl⟩)) | (with_reducible first | refine y'b ‹_› ?_ | refine y'n ‹_› ?_ | refine y'1 ‹_› ?_ | refine y'2 ‹_› ?_ | refine y'3 ?_ | refine y'4 ?_) | ((with_reducible refine y'n ?_ ?_); (· first | with_reducible assumption | exact decide_eq_true (by omega) | decide +kernel)) | (with_reducible first | refine y'n (y'7 ‹_› ‹_›) ?_ | refine y'v (y'8 ‹_› ‹_›) (fun s hs => ?_) | refine y'5 ‹_› ?_ | refine y'6 ‹_› ?_) | ((with_reducible refine y'p ?_ ?_); (· rfl)) | ((with_reducible refine y'q ?_ ?_); (· rfl)) | fail) <;> (conv => whnf))
  exact keepOf (v₀ := .a (.bool false)) [] [] (congrArg (fun b => V.a (.bool b)) c0) trivial rfl hK
set_option maxHeartbeats 400000 in
theorem isNaN64 (a : Int) {K : V → Hp → Prop} (hK : K (.a (.bool false)) []) : Go.Eng.Fn Tryd.prog ro 131 [.a (.int .u64 a)] [] K := by
  have c0 : (a != a) = false := by simp
  refine Fn.weak ?_
  refine Fn.of_code (gOf []) Tryd.func131 rfl (Nat.le_of_ble_eq_true rfl) ?_
  conv => whnf
  repeat' ((first | ((with_reducible refine y'r ?_ ?_); (· decide +kernel)) | ((with_reducible refine y'g ?_ ?_); (· exact ⟨_, rfl⟩)) | (with_reducible first | refine y'b ‹_› ?_ | refine y'n ‹_› ?_ | refine y'1 ‹_› ?_ | refine y'2 ‹_› ?_ | refine y'3 ?_ | refine y'4 ?_) | ((with_reducible refine y'n ?_ ?_); (· first | with_reducible assumption | exact decide_eq_true (by omega) | decide +kernel)) | (with_reducible first | refine y'n (y'7 ‹_› ‹_›) ?_ | refine y'v (y'8 ‹_› ‹_›) (fun s hs => ?_) | refine y'5 ‹_› ?_ | refine y'6 ‹_› ?_) | ((with_reducible refine y'p ?_ ?_); (· rfl)) | ((with_reducible refine y'q ?_ ?_); (· rfl)) | fail) <;> (conv => whnf))
  exact keepOf (v₀ := .a (.bool false)) [] [] (congrArg (fun b => V.a (.bool b)) c0) trivial rfl hK
set_option maxHeartbeats 1000000 in
theorem compare32 (a b : Int) {K : V → Hp → Prop} (hK : K (.a (.int .i64 (cmpI a b))) []) : Go.Eng.Fn Tryd.prog ro 117 [.a (.int .u32 a), .a (.int .u32 b)] [] K := by
  have ka := @isNaN32 ro a
  have kb := @isNaN32 ro b
  unfold cmpI at hK
  refine Fn.weak ?_
  refine Fn.of_code (gOf []) Tryd.func117 rfl (Nat.le_of_ble_eq_true rfl) ?_
  by_cases h1 : a < b
  case' pos =>
    rw [if_pos h1] at hK
    have d1 : decide (a < b) = true := decide_eq_true h1
  case' neg =>
    rw [if_neg h1] at hK
    have d1 : decide (a < b) = false := decide_eq_false h1
    by_cases h2 : b < a
    case' pos =>
      rw [if_pos h2] at hK
      have d2 : decide (a > b) = true := decide_eq_true h2
    case' neg =>
      rw [if_neg h2] at hK
      have d2 : decide (a > b) = false := decide_eq_false h2
  all_goals
    conv => whnf
    repeat' ((first | ((with_reducible refine y'r ?_ ?_); (· decide +kernel)) | ((with_reducible refine y'g ?_ ?_); (· exact ⟨_, rfl⟩)) | (with_reducible first | refine y'b ‹_› ?_ | refine y'n ‹_› ?_ | refine y'1 ‹_› ?_ | refine y'2 ‹_› ?_ | refine y'3 ?_ | refine y'4 ?_) | ((with_reducible refine y'n ?_ ?_); (· first | with_reducible assumption | exact decide_eq_true (by omega) | decide +kernel)) | (with_reducible first | refine y'n (y'7 ‹_› ‹_›) ?_ | refine y'v (y'8 ‹_› ‹_›) (fun s hs => ?_) | refine y'5 ‹_› ?_ | refine y'6 ‹_› ?_) | ((with_reducible refine y'p ?_ ?_); (· rfl)) | ((with_reducible refine y'q ?_ ?_); (· rfl)) | (refine Fn.frame [] (by rfl) (by exact trivial) (by rfl) (ka ?_)) | (refine Fn.frame [] (by rfl) (by exact trivial) (by rfl) (kb ?_)) | fail) <;> (conv => whnf))
    exact keepOf (v₀ := .a (.int .i64 _)) [] [] rfl trivial rfl hK
set_option maxHeartbeats 1000000 in
theorem compare64 (a b : Int) {K : V → Hp → Prop} (hK : K (.a (.int .i64 (cmpI a b))) []) : Go.Eng.Fn Tryd.prog ro 110 [.a (.int .u64 a), .a (.int .u64 b)] [] K := by
  have ka := @isNaN64 ro a
  have kb := @isNaN64 ro b
  unfold cmpI at hK
  refine Fn.weak ?_
  refine Fn.of_code (gOf []) Tryd.func110 rfl (Nat.le_of_ble_eq_true rfl) ?_
  by_cases h1 : a < b
  case' pos =>
    rw [if_pos h1] at hK
    have d1 : decide (a < b) = true := decide_eq_true h1
  case' neg =>
    rw [if_neg h1] at hK
    have d1 : decide (a < b) = false := decide_eq_false h1
    by_cases h2 : b < a
    case' pos =>
      rw [if_pos h2] at hK
      have d2 : decide (a > b) = true := decide_eq_true h2
    case' neg =>
      rw [if_neg h2] at hK
      have d2 : decide (a > b) = false := decide_eq_false h2
  all_goals
    conv => whnf
    repeat' ((first | ((with_reducible refine y'r ?_ ?_); (· decide +kernel)) | ((with_reducible refine y'g ?_ ?_); (· exact ⟨_, rfl⟩)) | (with_reducible first | refine y'b ‹_› ?_ | refine y'n ‹_› ?_ | refine y'1 ‹_› ?_ | refine y'2 ‹_› ?_ | refine y'3 ?_ | refine y'4 ?_) | ((with_reducible refine y'n ?_ ?_); (· first | with_reducible assumption | exact decide_eq_true (by omega) | decide +kernel)) | (with_reducible first | refine y'n (y'7 ‹_› ‹_›) ?_ | refine y'v (y'8 ‹_› ‹_›) (fun s hs => ?_) | refine y'5 ‹_› ?_ | refine y'6 ‹_› ?_) | ((with_reducible refine y'p ?_ ?_); (· rfl)) | ((with_reducible refine y'q ?_ ?_); (· rfl)) | (refine Fn.frame [] (by rfl) (by exact trivial) (by rfl) (ka ?_)) | (refine Fn.frame [] (by rfl) (by exact trivial) (by rfl) (kb ?_)) | fail) <;> (conv => whnf))
    exact keepOf (v₀ := .a (.int .i64 _)) [] [] rfl trivial rfl hK
set_option maxHeartbeats 1000000 in
theorem or2 (x y : Int) (ty : TypeId) (mk : Bool) {K : V → Hp → Prop} (hK : K (.a (.int .i64 (if x = 0 then y else x))) [.cells [.int .i64 x, .int .i64 y] ty mk]) :
    Go.Eng.Fn Tryd.prog ro 116 [.a (.slc 0 0 2 2)] [.cells [.int .i64 x, .int .i64 y] ty mk] K := by
  refine Fn.weak ?_
  refine Fn.of 1 (gOf []) rfl Tryd.func116 rfl (Nat.le_of_ble_eq_true rfl) ?_
  conv => whnf
  repeat' ((first | ((with_reducible refine y'r ?_ ?_); (· decide +kernel)) | ((with_reducible refine y'g ?_ ?_); (· exact ⟨_, rfl⟩)) | (with_reducible first | refine y'b ‹_› ?_ | refine y'n ‹_› ?_ | refine y'1 ‹_› ?_ | refine y'2 ‹_› ?_ | refine y'3 ?_ | refine y'4 ?_) | ((with_reducible refine y'n ?_ ?_); (· first | with_reducible assumption | exact decide_eq_true (by omega) | decide +kernel)) | (with_reducible first | refine y'n (y'7 ‹_› ‹_›) ?_ | refine y'v (y'8 ‹_› ‹_›) (fun s hs => ?_) | refine y'5 ‹_› ?_ | refine y'6 ‹_› ?_) | ((with_reducible refine y'p ?_ ?_); (· rfl)) | ((with_reducible refine y'q ?_ ?_); (· rfl)) | fail) <;> (conv => whnf))
  refine loopx_iter 3 ?_
  by_cases hx : x = 0
  · have c1 : (x != 0) = false := by simp [hx]
    by_cases hy : y = 0
    · have c2 : (y != 0) = false := by simp [hy]
      have hk : K (.a (.int .i64 0)) [.cells [.int .i64 x, .int .i64 y] ty mk] := by
        have h := hK
        rw [if_pos hx] at h
        subst hy
        exact h
      conv => whnf
      repeat' ((first | ((with_reducible refine y'r ?_ ?_); (· decide +kernel)) | ((with_reducible refine y'g ?_ ?_); (· exact ⟨_, rfl⟩)) | (with_reducible first | refine y'b ‹_› ?_ | refine y'n ‹_› ?_ | refine y'1 ‹_› ?_ | refine y'2 ‹_› ?_ | refine y'3 ?_ | refine y'4 ?_) | ((with_reducible refine y'n ?_ ?_); (· first | with_reducible assumption | exact decide_eq_true (by omega) | decide +kernel)) | (with_reducible first | refine y'n (y'7 ‹_› ‹_›) ?_ | refine y'v (y'8 ‹_› ‹_›) (fun s hs => ?_) | refine y'5 ‹_› ?_ | refine y'6 ‹_› ?_) | ((with_reducible refine y'p ?_ ?_); (· rfl)) | ((with_reducible refine y'q ?_ ?_); (· rfl)) | fail) <;> (conv => whnf))
      exact keepOf (v₀ := .a (.int .i64 0)) [.cells [.int .i64 x, .int .i64 y] ty mk] [0] rfl ⟨rfl, trivial⟩ rfl hk
    · have c2 : (y != 0) = true := by simp [hy]
      rw [if_pos hx] at hK
      conv => whnf
      repeat' ((first | ((with_reducible refine y'r ?_ ?_); (· decide +kernel)) | ((with_reducible refine y'g ?_ ?_); (· exact ⟨_, rfl⟩)) | (with_reducible first | refine y'b ‹_› ?_ | refine y'n ‹_› ?_ | refine y'1 ‹_› ?_ | refine y'2 ‹_› ?_ | refine y'3 ?_ | refine y'4 ?_) | ((with_reducible refine y'n ?_ ?_); (· first | with_reducible assumption | exact decide_eq_true (by omega) | decide +kernel)) | (with_reducible first | refine y'n (y'7 ‹_› ‹_›) ?_ | refine y'v (y'8 ‹_› ‹_›) (fun s hs => ?_) | refine y'5 ‹_› ?_ | refine y'6 ‹_› ?_) | ((with_reducible refine y'p ?_ ?_); (· rfl)) | ((with_reducible refine y'q ?_ ?_); (· rfl)) | fail) <;> (conv => whnf))
      exact keepOf (v₀ := .a (.int .i64 y)) [.cells [.int .i64 x, .int .i64 y] ty mk] [0] rfl ⟨rfl, trivial⟩ rfl hK
  · rw [if_neg hx] at hK
    have c1 : (x != 0) = true := by simp [hx]
    conv => whnf
    repeat' ((first | ((with_reducible refine y'r ?_ ?_); (· decide +kernel)) | ((with_reducible refine y'g ?_ ?_); (· exact ⟨_, rfl⟩)) | (with_reducible first | refine y'b ‹_› ?_ | refine y'n ‹_› ?_ | refine y'1 ‹_› ?_ | refine y'2 ‹_› ?_ | refine y'3 ?_ | refine y'4 ?_) | ((with_reducible refine y'n ?_ ?_); (· first | with_reducible assumption | exact decide_eq_true (by omega) | decide +kernel)) | (with_reducible first | refine y'n (y'7 ‹_› ‹_›) ?_ | refine y'v (y'8 ‹_› ‹_›) (fun s hs => ?_) | refine y'5 ‹_› ?_ | refine y'6 ‹_› ?_) | ((with_reducible refine y'p ?_ ?_); (· rfl)) | ((with_reducible refine y'q ?_ ?_); (· rfl)) | fail) <;> (conv => whnf))
    exact keepOf (v₀ := .a (.int .i64 x)) [.cells [.int .i64 x, .int .i64 y] ty mk] [0] rfl ⟨rfl, trivial⟩ rfl hK
end
end Go.Proofs.YtimddbgnaeeggaaDoor.KD
namespace Go.Proofs.YtimddbgnaeeggaaDoor.KD
open Go.Eng
set_option maxRecDepth 100000
/-! ### The order of dots; rows of dots that are a vector. -/
def ordD (x y : Dt) : Int := if cmpI x.a y.a = 0 then cmpI x.c y.c else cmpI x.a y.a
/-- The dot at i fits behind the one before it. -/
def okAt (D : List Dt) (i : Nat) : Bool :=
  match D[i]? with
  | none => true
  | some x => decide (x.c ≠ 0 ∧ x.c ≤ 1099511627776) && (decide (i = 0) || match D[i - 1]? with | none => true | some y => decide (y.a < x.a))
@[irreducible] def vvalid (D : List Dt) : Bool := (List.range D.length).all (okAt D) && decide (D.length ≤ 64)
theorem okAt_0 {D : List Dt} {x : Dt} (h : D[0]? = some x) : okAt D 0 = decide (x.c ≠ 0 ∧ x.c ≤ 1099511627776) := by
  unfold okAt; rw [h]; simp
theorem okAt_s {D : List Dt} {x y : Dt} {i : Nat} (h : D[i]? = some x) (hi : i ≠ 0) (h' : D[i - 1]? = some y) : okAt D i = (decide (x.c ≠ 0 ∧ x.c ≤ 1099511627776) && decide (y.a < x.a)) := by
  unfold okAt; rw [h, h', decide_eq_false hi]; rfl
theorem vvalid_no {D : List Dt} {i : Nat} (hi : i < D.length) (h : okAt D i = false) : vvalid D = false := by
  unfold vvalid
  cases e : (List.range D.length).all (okAt D) with
  | false => rfl
  | true => have := List.all_eq_true.1 e i (List.mem_range.2 hi); rw [h] at this; cases this
theorem vvalid_all {D : List Dt} (h : ∀ j, j < D.length → okAt D j = true) : vvalid D = decide (D.length ≤ 64) := by
  unfold vvalid
  rw [List.all_eq_true.2 (fun j hj => h j (List.mem_range.1 hj))]; rfl
theorem vvalid_yes {D : List Dt} (h : vvalid D = true) : (∀ j, j < D.length → okAt D j = true) ∧ D.length ≤ 64 := by
  unfold vvalid at h
  rw [Bool.and_eq_true, List.all_eq_true, decide_eq_true_iff] at h
  exact ⟨fun j hj => h.1 j (List.mem_range.2 hj), h.2⟩
theorem vvalid_srt {D : List Dt} (h : vvalid D = true) : ∀ (i j : Nat) (x y : Dt), D[i]? = some x → D[j]? = some y → i < j → x.a < y.a := by
  intro i j
  induction j with
  | zero => intro x y _ _ hij; omega
  | succ j ih =>
    intro x y hx hy hij
    obtain ⟨hj, _⟩ := List.getElem?_eq_some_iff.1 hy
    obtain ⟨z, hz⟩ : ∃ z, D[j]? = some z := ⟨_, List.getElem?_eq_getElem (by omega)⟩
    have h1 := (vvalid_yes h).1 (j + 1) hj
    rw [okAt_s hy (by omega) hz, Bool.and_eq_true, decide_eq_true_iff, decide_eq_true_iff] at h1
    rcases Nat.lt_or_ge i j with hlt | hge
    · have := ih x z hx hz hlt; have := h1.2; omega
    · have : i = j := by omega
      subst this
      rw [hx] at hz
      cases hz
      exact h1.2
theorem rw_ok {α : Type} {w : Nat} {row : α → List A} {D : List α} {cs : List A} (h : Rw w row D cs) {i : Nat} (hi : i < D.length) {o : Nat} (ho : o = i * w) : decide (o + w ≤ cs.length) = true := by
  refine decide_eq_true ?_
  have h1 := h.len
  have h2 : (i + 1) * w ≤ D.length * w := Nat.mul_le_mul_right w hi
  rw [Nat.add_mul, Nat.one_mul] at h2
  omega
section
variable {ro : Addr → A → Prop}
set_option maxHeartbeats 1000000 in
theorem order98 (x y : Dt) {K : V → Hp → Prop} (hK : K (.a (.int .i64 (ordD x y))) []) : Go.Eng.Fn Tryd.prog ro 98 [.g x.row, .g y.row] [] K := by
  unfold ordD at hK
  obtain ⟨a, c⟩ := x
  obtain ⟨b, d⟩ := y
  simp only at hK
  have g0 := True.intro
  have g1 := True.intro
  have ka := @compare32 ro a b
  have kb := @compare64 ro c d
  generalize cmpI a b = u at *
  generalize cmpI c d = v at *
  have ko := @or2 ro u v
  refine Fn.weak ?_
  refine Fn.of 0 h98 rfl Tryd.func98 rfl (Nat.le_of_ble_eq_true rfl) ?_
  conv => whnf
  repeat' ((first | ((with_reducible refine y'r ?_ ?_); (· decide +kernel)) | ((with_reducible refine y'g ?_ ?_); (· exact ⟨_, rfl⟩)) | (with_reducible first | refine y'b ‹_› ?_ | refine y'n ‹_› ?_ | refine y'1 ‹_› ?_ | refine y'2 ‹_› ?_ | refine y'3 ?_ | refine y'4 ?_) | ((with_reducible refine y'n ?_ ?_); (· first | with_reducible assumption | exact decide_eq_true (by omega) | decide +kernel)) | (with_reducible first | refine y'n (y'7 ‹_› ‹_›) ?_ | refine y'v (y'8 ‹_› ‹_›) (fun s hs => ?_) | refine y'5 ‹_› ?_ | refine y'6 ‹_› ?_) | ((with_reducible apply y'o); (· exact g0)) | (with_reducible refine y't g1 ?_) | ((with_reducible refine y'p ?_ ?_); (· rfl)) | ((with_reducible refine y'q ?_ ?_); (· rfl)) | (refine Fn.frame [] (by rfl) (by exact trivial) (by rfl) (ka ?_)) | (refine Fn.frame [] (by rfl) (by exact trivial) (by rfl) (kb ?_)) | (refine Fn.frame [2] (by rfl) (by exact ⟨rfl, trivial⟩) (by rfl) (ko _ _ ?_)) | fail) <;> (conv => whnf))
  exact keepOf (v₀ := .a (.int .i64 (if u = 0 then v else u))) [] [] rfl trivial rfl hK
set_option maxHeartbeats 4000000 in
theorem valid97 (D : List Dt) (cs : List A) (n cap : Nat) (mk : Bool) (hr : Rw 2 Dt.row D cs) (hn : n = D.length) (hn9 : n ≤ 9223372036854775807) {K : V → Hp → Prop}
    (hK : K (.a (.bool (vvalid D))) [.cells cs 76 mk]) :
    Go.Eng.Fn Tryd.prog ro 97 [.a (.slc 0 0 n cap)] [.cells cs 76 mk] K := by
  have hp := hr.pl
  have g0 := True.intro
  have g1 := True.intro
  refine Fn.weak ?_
  refine Fn.of 1 h97 rfl Tryd.func97 rfl (Nat.le_of_ble_eq_true rfl) ?_
  conv => whnf
  repeat' ((first | ((with_reducible refine y'r ?_ ?_); (· decide +kernel)) | ((with_reducible refine y'g ?_ ?_); (· exact ⟨_, rfl⟩)) | (with_reducible first | refine y'b ‹_› ?_ | refine y'n ‹_› ?_ | refine y'1 ‹_› ?_ | refine y'2 ‹_› ?_ | refine y'3 ?_ | refine y'4 ?_) | ((with_reducible refine y'n ?_ ?_); (· first | with_reducible assumption | exact decide_eq_true (by omega) | decide +kernel)) | (with_reducible first | refine y'n (y'7 ‹_› ‹_›) ?_ | refine y'v (y'8 ‹_› ‹_›) (fun s hs => ?_) | refine y'5 ‹_› ?_ | refine y'6 ‹_› ?_) | ((with_reducible apply y'o); (· exact g0)) | (with_reducible refine y't g1 ?_) | ((with_reducible refine y'p ?_ ?_); (· rfl)) | ((with_reducible refine y'q ?_ ?_); (· rfl)) | fail) <;> (conv => whnf))
  refine loopx_of (fun k F H => ∃ i : Nat, i ≤ n ∧ k = n - i ∧ (∀ j, j < i → okAt D j = true) ∧ F = [(0, .a (.slc 0 0 n cap)), (5, .a (.slc 0 0 n cap)), (6, .a (.int .i64 n)), (7, .a (.int .i64 i))] ∧ H = [.cells cs 76 mk]) n ?_ ?_
  · exact Into.weak [0] _ [.cells cs 76 mk] ⟨0, Nat.zero_le _, rfl, fun j hj => absurd hj (Nat.not_lt_zero j), rfl, rfl⟩ ⟨rfl, rfl, rfl, rfl, trivial⟩ ⟨ren_pl hp _ _ _, trivial⟩ (by simp [nodupb, baseb, Ob.okb, frmOk, V.okb, A.okb, hp.2] <;> decide)
  · rintro k F H ⟨i, hi, rfl, hv, rfl, rfl⟩
    by_cases hin : i < n
    · have d1 : decide ((i : Int) < (n : Int)) = true := decide_eq_true (by omega)
      have d2 : decide (0 ≤ (i : Int) ∧ (i : Int) < (n : Int)) = true := decide_eq_true (by omega)
      have hwi : IntKind.i64.wrap ((i : Int) + 1) = ((i + 1 : Nat) : Int) := by rw [i64w (by omega) (by omega)]; rfl
      obtain ⟨x, hx⟩ : ∃ x, D[i]? = some x := ⟨_, List.getElem?_eq_getElem (by omega)⟩
      have hpk : List.drop (0 + (i : Int).toNat * Tryd.prog.types[76].size) (List.take (0 + (i : Int).toNat * Tryd.prog.types[76].size + Tryd.prog.types[76].size) cs) = [.int .u32 x.a, .int .u64 x.c] := by
        rw [Int.toNat_natCast, sDot, Nat.zero_add]; exact hr.at_ i x hx
      have hok : decide (0 + (i : Int).toNat * Tryd.prog.types[76].size + Tryd.prog.types[76].size ≤ cs.length) = true := rw_ok hr (i := i) (by omega) (by rw [Int.toNat_natCast, sDot, Nat.zero_add])
      obtain ⟨a, c⟩ := x
      clear g1
      have g1 := hpk
      have hno : okAt D i = false → K (.a (.bool false)) [.cells cs 76 mk] := fun h => by rw [← vvalid_no (by omega) h]; exact hK
      have hgo : okAt D i = true → ∀ j, j < i + 1 → okAt D j = true := fun h j hj => by
        rcases Nat.lt_or_ge j i with h' | h'
        · exact hv j h'
        · rw [show j = i by omega]; exact h
      by_cases h0 : c = 0
      · have c0 : (c == 0) = true := by simp [h0]
        have hf : okAt D i = false := by unfold okAt; rw [hx]; simp [h0]
        conv => whnf
        repeat' ((first | ((with_reducible refine y'r ?_ ?_); (· decide +kernel)) | ((with_reducible refine y'g ?_ ?_); (· exact ⟨_, rfl⟩)) | (with_reducible first | refine y'b ‹_› ?_ | refine y'n ‹_› ?_ | refine y'1 ‹_› ?_ | refine y'2 ‹_› ?_ | refine y'3 ?_ | refine y'4 ?_) | ((with_reducible refine y'n ?_ ?_); (· first | with_reducible assumption | exact decide_eq_true (by omega) | decide +kernel)) | (with_reducible first | refine y'n (y'7 ‹_› ‹_›) ?_ | refine y'v (y'8 ‹_› ‹_›) (fun s hs => ?_) | refine y'5 ‹_› ?_ | refine y'6 ‹_› ?_) | ((with_reducible apply y'o); (· exact g0)) | (with_reducible refine y't g1 ?_) | ((with_reducible refine y'p ?_ ?_); (· rfl)) | ((with_reducible refine y'q ?_ ?_); (· rfl)) | fail) <;> (conv => whnf))
        exact keepOf (v₀ := .a (.bool false)) [.cells cs 76 mk] [0] rfl ⟨ren_pl hp _ _ _, trivial⟩ (by simp [nodupb, baseb, Ob.okb, frmOk, V.okb, A.okb, hp.2] <;> decide) (hno hf)
      have c0 : (c == 0) = false := by simp [h0]
      by_cases h1 : c ≤ 1099511627776
      · have c1 : decide (c > 1099511627776) = false := decide_eq_false (by omega)
        by_cases h2 : i = 0
        · have c2 : decide ((i : Int) > 0) = false := decide_eq_false (by omega)
          have hf : okAt D i = true := by rw [h2]; rw [h2] at hx; rw [okAt_0 hx]; exact decide_eq_true ⟨h0, h1⟩
          conv => whnf
          repeat' ((first | ((with_reducible refine y'r ?_ ?_); (· decide +kernel)) | ((with_reducible refine y'g ?_ ?_); (· exact ⟨_, rfl⟩)) | (with_reducible first | refine y'b ‹_› ?_ | refine y'n ‹_› ?_ | refine y'1 ‹_› ?_ | refine y'2 ‹_› ?_ | refine y'3 ?_ | refine y'4 ?_) | ((with_reducible refine y'n ?_ ?_); (· first | with_reducible assumption | exact decide_eq_true (by omega) | decide +kernel)) | (with_reducible first | refine y'n (y'7 ‹_› ‹_›) ?_ | refine y'v (y'8 ‹_› ‹_›) (fun s hs => ?_) | refine y'5 ‹_› ?_ | refine y'6 ‹_› ?_) | ((with_reducible apply y'o); (· exact g0)) | (with_reducible refine y't g1 ?_) | ((with_reducible refine y'p ?_ ?_); (· rfl)) | ((with_reducible refine y'q ?_ ?_); (· rfl)) | fail) <;> (conv => whnf))
          exact ⟨n - (i + 1), by omega, Into.weak [0] [(0, .a (.slc 0 0 n cap)), (5, .a (.slc 0 0 n cap)), (6, .a (.int .i64 n)), (7, .a (.int .i64 ((i + 1 : Nat) : Int)))] [.cells cs 76 mk] ⟨i + 1, by omega, rfl, hgo hf, rfl, rfl⟩ ⟨rfl, rfl, rfl, congrArg (fun z => some (V.a (.int .i64 z))) hwi, trivial⟩ ⟨ren_pl hp _ _ _, trivial⟩ (by simp [nodupb, baseb, Ob.okb, frmOk, V.okb, A.okb, hp.2] <;> decide)⟩
        · have c2 : decide ((i : Int) > 0) = true := decide_eq_true (by omega)
          obtain ⟨y, hy⟩ : ∃ y, D[i - 1]? = some y := ⟨_, List.getElem?_eq_getElem (by omega)⟩
          obtain ⟨b, d⟩ := y
          obtain ⟨w, hw⟩ : ∃ w, w = IntKind.i64.wrap ((i : Int) - 1) := ⟨_, rfl⟩
          have hw2 : w = ((i - 1 : Nat) : Int) := by rw [hw, i64w (by omega) (by omega)]; omega
          have d3 : decide (0 ≤ w ∧ w < (n : Int)) = true := decide_eq_true (by omega)
          clear g0
          have g0 : cs[0 + w.toNat * Tryd.prog.types[76].size + 0]? = some (.int .u32 b) := by
            rw [hw2, Int.toNat_natCast, sDot, Nat.zero_add]; exact hr.cell (k := 0) hy (by omega) rfl
          by_cases h3 : b < a
          · have c3 : decide (b ≥ a) = false := decide_eq_false (by omega)
            have hf : okAt D i = true := by rw [okAt_s hx h2 hy]; simp [h0, h1, h3]
            conv => whnf
            repeat' ((first | rw [← hw] | ((with_reducible refine y'r ?_ ?_); (· decide +kernel)) | ((with_reducible refine y'g ?_ ?_); (· exact ⟨_, rfl⟩)) | (with_reducible first | refine y'b ‹_› ?_ | refine y'n ‹_› ?_ | refine y'1 ‹_› ?_ | refine y'2 ‹_› ?_ | refine y'3 ?_ | refine y'4 ?_) | ((with_reducible refine y'n ?_ ?_); (· first | with_reducible assumption | exact decide_eq_true (by omega) | decide +kernel)) | (with_reducible first | refine y'n (y'7 ‹_› ‹_›) ?_ | refine y'v (y'8 ‹_› ‹_›) (fun s hs => ?_) | refine y'5 ‹_› ?_ | refine y'6 ‹_› ?_) | ((with_reducible apply y'o); (· exact g0)) | (with_reducible refine y't g1 ?_) | ((with_reducible refine y'p ?_ ?_); (· rfl)) | ((with_reducible refine y'q ?_ ?_); (· rfl)) | fail) <;> (conv => whnf))
            exact ⟨n - (i + 1), by omega, Into.weak [0] [(0, .a (.slc 0 0 n cap)), (5, .a (.slc 0 0 n cap)), (6, .a (.int .i64 n)), (7, .a (.int .i64 ((i + 1 : Nat) : Int)))] [.cells cs 76 mk] ⟨i + 1, by omega, rfl, hgo hf, rfl, rfl⟩ ⟨rfl, rfl, rfl, congrArg (fun z => some (V.a (.int .i64 z))) hwi, trivial⟩ ⟨ren_pl hp _ _ _, trivial⟩ (by simp [nodupb, baseb, Ob.okb, frmOk, V.okb, A.okb, hp.2] <;> decide)⟩
          · have c3 : decide (b ≥ a) = true := decide_eq_true (by omega)
            have hf : okAt D i = false := by rw [okAt_s hx h2 hy]; simp [h3]
            conv => whnf
            repeat' ((first | rw [← hw] | ((with_reducible refine y'r ?_ ?_); (· decide +kernel)) | ((with_reducible refine y'g ?_ ?_); (· exact ⟨_, rfl⟩)) | (with_reducible first | refine y'b ‹_› ?_ | refine y'n ‹_› ?_ | refine y'1 ‹_› ?_ | refine y'2 ‹_› ?_ | refine y'3 ?_ | refine y'4 ?_) | ((with_reducible refine y'n ?_ ?_); (· first | with_reducible assumption | exact decide_eq_true (by omega) | decide +kernel)) | (with_reducible first | refine y'n (y'7 ‹_› ‹_›) ?_ | refine y'v (y'8 ‹_› ‹_›) (fun s hs => ?_) | refine y'5 ‹_› ?_ | refine y'6 ‹_› ?_) | ((with_reducible apply y'o); (· exact g0)) | (with_reducible refine y't g1 ?_) | ((with_reducible refine y'p ?_ ?_); (· rfl)) | ((with_reducible refine y'q ?_ ?_); (· rfl)) | fail) <;> (conv => whnf))
            exact keepOf (v₀ := .a (.bool false)) [.cells cs 76 mk] [0] rfl ⟨ren_pl hp _ _ _, trivial⟩ (by simp [nodupb, baseb, Ob.okb, frmOk, V.okb, A.okb, hp.2] <;> decide) (hno hf)
      · have c1 : decide (c > 1099511627776) = true := decide_eq_true (by omega)
        have hf : okAt D i = false := by unfold okAt; rw [hx]; simp [h1]
        conv => whnf
        repeat' ((first | ((with_reducible refine y'r ?_ ?_); (· decide +kernel)) | ((with_reducible refine y'g ?_ ?_); (· exact ⟨_, rfl⟩)) | (with_reducible first | refine y'b ‹_› ?_ | refine y'n ‹_› ?_ | refine y'1 ‹_› ?_ | refine y'2 ‹_› ?_ | refine y'3 ?_ | refine y'4 ?_) | ((with_reducible refine y'n ?_ ?_); (· first | with_reducible assumption | exact decide_eq_true (by omega) | decide +kernel)) | (with_reducible first | refine y'n (y'7 ‹_› ‹_›) ?_ | refine y'v (y'8 ‹_› ‹_›) (fun s hs => ?_) | refine y'5 ‹_› ?_ | refine y'6 ‹_› ?_) | ((with_reducible apply y'o); (· exact g0)) | (with_reducible refine y't g1 ?_) | ((with_reducible refine y'p ?_ ?_); (· rfl)) | ((with_reducible refine y'q ?_ ?_); (· rfl)) | fail) <;> (conv => whnf))
        exact keepOf (v₀ := .a (.bool false)) [.cells cs 76 mk] [0] rfl ⟨ren_pl hp _ _ _, trivial⟩ (by simp [nodupb, baseb, Ob.okb, frmOk, V.okb, A.okb, hp.2] <;> decide) (hno hf)
    · have d1 : decide ((i : Int) < (n : Int)) = false := decide_eq_false (by omega)
      have hk : K (.a (.bool (decide ((n : Int) ≤ 64)))) [.cells cs 76 mk] := by
        rw [vvalid_all (fun j hj => hv j (by omega))] at hK
        have e : decide ((n : Int) ≤ 64) = decide (D.length ≤ 64) := by rw [hn]; exact decide_eq_decide.2 (by omega)
        rw [e]; exact hK
      conv => whnf
      repeat' ((first | ((with_reducible refine y'r ?_ ?_); (· decide +kernel)) | ((with_reducible refine y'g ?_ ?_); (· exact ⟨_, rfl⟩)) | (with_reducible first | refine y'b ‹_› ?_ | refine y'n ‹_› ?_ | refine y'1 ‹_› ?_ | refine y'2 ‹_› ?_ | refine y'3 ?_ | refine y'4 ?_) | ((with_reducible refine y'n ?_ ?_); (· first | with_reducible assumption | exact decide_eq_true (by omega) | decide +kernel)) | (with_reducible first | refine y'n (y'7 ‹_› ‹_›) ?_ | refine y'v (y'8 ‹_› ‹_›) (fun s hs => ?_) | refine y'5 ‹_› ?_ | refine y'6 ‹_› ?_) | ((with_reducible apply y'o); (· exact g0)) | (with_reducible refine y't g1 ?_) | ((with_reducible refine y'p ?_ ?_); (· rfl)) | ((with_reducible refine y'q ?_ ?_); (· rfl)) | fail) <;> (conv => whnf))
      exact keepOf (v₀ := .a (.bool (decide ((n : Int) ≤ 64)))) [.cells cs 76 mk] [0] rfl ⟨ren_pl hp _ _ _, trivial⟩ (by simp [nodupb, baseb, Ob.okb, frmOk, V.okb, A.okb, hp.2] <;> decide) hk
end
end Go.Proofs.YtimddbgnaeeggaaDoor.KD
namespace Go.Proofs.YtimddbgnaeeggaaDoor.KD
open Go.Eng
set_option maxRecDepth 100000
/-! ### slices.BinarySearchFunc over dots; vector.Count, vector.Covers. -/
theorem cmpI_lt {a b : Int} : cmpI a b < 0 ↔ a < b := by
  unfold cmpI
  by_cases h : a < b
  · rw [if_pos h]; exact ⟨fun _ => h, fun _ => by decide⟩
  · rw [if_neg h]
    by_cases h' : b < a
    · rw [if_pos h']; exact ⟨fun h => absurd h (by decide), fun h2 => absurd h2 h⟩
    · rw [if_neg h']; exact ⟨fun h => absurd h (by decide), fun h2 => absurd h2 h⟩
theorem cmpI_eq {a b : Int} : cmpI a b = 0 ↔ a = b := by
  unfold cmpI
  by_cases h : a < b
  · rw [if_pos h]; exact ⟨fun h => absurd h (by decide), fun h' => by omega⟩
  · rw [if_neg h]
    by_cases h' : b < a
    · rw [if_pos h']; exact ⟨fun h => absurd h (by decide), fun h' => by omega⟩
    · rw [if_neg h']; exact ⟨fun _ => by omega, fun _ => rfl⟩
theorem shr1 (x : Nat) : (x : Int).fdiv (2 ^ min (Int.toNat 1) IntKind.u64.bits) = ((x / 2 : Nat) : Int) := fdivN x 2
section
variable {ro : Addr → A → Prop}
set_option maxHeartbeats 1000000 in
theorem clo134 (a c b : Int) {K : V → Hp → Prop} (hK : K (.a (.int .i64 (cmpI a b))) []) : Go.Eng.Fn Tryd.prog ro 134 [.g [.int .u32 a, .int .u64 c], .a (.int .u32 b)] [] K := by
  have g0 := True.intro
  have g1 := True.intro
  have ka := @compare32 ro a b
  generalize cmpI a b = u at *
  refine Fn.weak ?_
  refine Fn.of 0 (gOf []) rfl Tryd.func134 rfl (Nat.le_of_ble_eq_true rfl) ?_
  conv => whnf
  repeat' ((first | ((with_reducible refine y'r ?_ ?_); (· decide +kernel)) | ((with_reducible refine y'g ?_ ?_); (· exact ⟨_, rfl⟩)) | (with_reducible first | refine y'b ‹_› ?_ | refine y'n ‹_› ?_ | refine y'1 ‹_› ?_ | refine y'2 ‹_› ?_ | refine y'3 ?_ | refine y'4 ?_) | ((with_reducible refine y'n ?_ ?_); (· first | with_reducible assumption | exact decide_eq_true (by omega) | decide +kernel)) | (with_reducible first | refine y'n (y'7 ‹_› ‹_›) ?_ | refine y'v (y'8 ‹_› ‹_›) (fun s hs => ?_) | refine y'5 ‹_› ?_ | refine y'6 ‹_› ?_) | ((with_reducible apply y'o); (· exact g0)) | (with_reducible refine y't g1 ?_) | ((with_reducible refine y'p ?_ ?_); (· rfl)) | ((with_reducible refine y'q ?_ ?_); (· rfl)) | (refine Fn.frame [] (by rfl) (by exact trivial) (by rfl) (ka ?_)) | fail) <;> (conv => whnf))
  exact keepOf (v₀ := .a (.int .i64 u)) [] [] rfl trivial rfl hK
set_option maxHeartbeats 4000000 in
theorem search133 (D : List Dt) (b : Int) (cs : List A) (n cap : Nat) (mk : Bool) (hr : Rw 2 Dt.row D cs) (hn : n = D.length) (hn9 : n ≤ 70368744177664) {K : V → Hp → Prop}
    (hK : ∀ (i : Nat) (ok : Bool), i ≤ n → (ok = true → ∃ x, D[i]? = some x ∧ x.a = b) → (vvalid D = true → ok = false → ∀ (j : Nat) (x : Dt), D[j]? = some x → x.a ≠ b) → K (.t [.a (.int .i64 (i : Int)), .a (.bool ok)]) [.cells cs 76 mk]) :
    Go.Eng.Fn Tryd.prog ro 133 [.a (.slc 0 0 n cap), .a (.int .u32 b), .a (.clo 134 [])] [.cells cs 76 mk] K := by
  have hp := hr.pl
  have g0 := True.intro
  have g1 := True.intro
  refine Fn.weak ?_
  refine Fn.of 1 (gOf []) rfl Tryd.func133 rfl (Nat.le_of_ble_eq_true rfl) ?_
  conv => whnf
  repeat' ((first | ((with_reducible refine y'r ?_ ?_); (· decide +kernel)) | ((with_reducible refine y'g ?_ ?_); (· exact ⟨_, rfl⟩)) | (with_reducible first | refine y'b ‹_› ?_ | refine y'n ‹_› ?_ | refine y'1 ‹_› ?_ | refine y'2 ‹_› ?_ | refine y'3 ?_ | refine y'4 ?_) | ((with_reducible refine y'n ?_ ?_); (· first | with_reducible assumption | exact decide_eq_true (by omega) | decide +kernel)) | (with_reducible first | refine y'n (y'7 ‹_› ‹_›) ?_ | refine y'v (y'8 ‹_› ‹_›) (fun s hs => ?_) | refine y'5 ‹_› ?_ | refine y'6 ‹_› ?_) | ((with_reducible apply y'o); (· exact g0)) | (with_reducible refine y't g1 ?_) | ((with_reducible refine y'p ?_ ?_); (· rfl)) | ((with_reducible refine y'q ?_ ?_); (· rfl)) | fail) <;> (conv => whnf))
  refine loopx_of (fun k F H => ∃ i j : Nat, i ≤ j ∧ j ≤ n ∧ k = j - i ∧ (vvalid D = true → (∀ (q : Nat) (x : Dt), q < i → D[q]? = some x → x.a < b) ∧ (∀ (q : Nat) (x : Dt), j ≤ q → D[q]? = some x → b ≤ x.a)) ∧ F = [(0, .a (.slc 0 0 n cap)), (1, .a (.int .u32 b)), (2, .a (.clo 134 [])), (8, .a (.int .i64 n)), (9, .a (.int .i64 i)), (10, .a (.int .i64 j))] ∧ H = [.cells cs 76 mk]) n ?_ ?_
  · exact Into.weak [0] [(0, .a (.slc 0 0 n cap)), (1, .a (.int .u32 b)), (2, .a (.clo 134 [])), (8, .a (.int .i64 n)), (9, .a (.int .i64 (0 : Nat))), (10, .a (.int .i64 n))] [.cells cs 76 mk] ⟨0, n, Nat.zero_le _, Nat.le_refl _, rfl, fun _ => ⟨fun q x hq => absurd hq (Nat.not_lt_zero q), fun q x hq hx => by obtain ⟨h, _⟩ := List.getElem?_eq_some_iff.1 hx; omega⟩, rfl, rfl⟩ ⟨rfl, rfl, rfl, rfl, rfl, rfl, trivial⟩ ⟨ren_pl hp _ _ _, trivial⟩ (by simp [nodupb, baseb, Ob.okb, frmOk, V.okb, A.okb, hp.2] <;> decide)
  · rintro k F H ⟨i, j, hij, hj, rfl, hv, rfl, rfl⟩
    by_cases hin : i < j
    · have d1 : decide ((i : Int) < (j : Int)) = true := decide_eq_true (by omega)
      obtain ⟨w, hw⟩ : ∃ w, w = IntKind.i64.wrap ((IntKind.u64.wrap (IntKind.i64.wrap ((i : Int) + (j : Int)))).fdiv (2 ^ min (Int.toNat 1) IntKind.u64.bits)) := ⟨_, rfl⟩
      obtain ⟨q, hq⟩ : ∃ q, q = (i + j) / 2 := ⟨_, rfl⟩
      have hw2 : w = (q : Int) := by
        have e1 : IntKind.i64.wrap ((i : Int) + (j : Int)) = ((i + j : Nat) : Int) := by rw [i64w (by omega) (by omega)]; omega
        rw [hw, e1, u64w, Nat.mod_eq_of_lt (by omega), shr1, i64w (by omega) (by omega), hq]
      have hiq : i ≤ q := by omega
      have hqj : q < j := by omega
      obtain ⟨x, hx⟩ : ∃ x, D[q]? = some x := ⟨_, List.getElem?_eq_getElem (by omega)⟩
      have hpk : List.drop (0 + w.toNat * Tryd.prog.types[76].size) (List.take (0 + w.toNat * Tryd.prog.types[76].size + Tryd.prog.types[76].size) cs) = [.int .u32 x.a, .int .u64 x.c] := by
        rw [hw2, Int.toNat_natCast, sDot, Nat.zero_add]; exact hr.at_ q x hx
      have hok : decide (0 + w.toNat * Tryd.prog.types[76].size + Tryd.prog.types[76].size ≤ cs.length) = true := rw_ok hr (i := q) (by omega) (by rw [hw2, Int.toNat_natCast, sDot, Nat.zero_add])
      obtain ⟨a, c⟩ := x
      clear g1
      have g1 := hpk
      have d3 : decide (0 ≤ w ∧ w < (n : Int)) = true := decide_eq_true (by omega)
      have kc := @clo134 ro a c b
      have hlt := @cmpI_lt a b
      generalize cmpI a b = u at *
      by_cases hab : a < b
      · have d4 : decide (u < 0) = true := decide_eq_true (hlt.2 hab)
        obtain ⟨w1, hw1⟩ : ∃ w1, w1 = IntKind.i64.wrap (w + 1) := ⟨_, rfl⟩
        have hw3 : w1 = ((q + 1 : Nat) : Int) := by rw [hw1, hw2, i64w (by omega) (by omega)]; rfl
        conv => whnf
        repeat' ((first | rw [← hw] | ((with_reducible refine y'r ?_ ?_); (· decide +kernel)) | ((with_reducible refine y'g ?_ ?_); (· exact ⟨_, rfl⟩)) | (with_reducible first | refine y'b ‹_› ?_ | refine y'n ‹_› ?_ | refine y'1 ‹_› ?_ | refine y'2 ‹_› ?_ | refine y'3 ?_ | refine y'4 ?_) | ((with_reducible refine y'n ?_ ?_); (· first | with_reducible assumption | exact decide_eq_true (by omega) | decide +kernel)) | (with_reducible first | refine y'n (y'7 ‹_› ‹_›) ?_ | refine y'v (y'8 ‹_› ‹_›) (fun s hs => ?_) | refine y'5 ‹_› ?_ | refine y'6 ‹_› ?_) | ((with_reducible apply y'o); (· exact g0)) | (with_reducible refine y't g1 ?_) | ((with_reducible refine y'p ?_ ?_); (· rfl)) | ((with_reducible refine y'q ?_ ?_); (· rfl)) | (refine Fn.frame [] (by rfl) (by exact trivial) (by rfl) (kc ?_)) | fail) <;> (conv => whnf))
        exact ⟨j - (q + 1), by omega, Into.weak [0] [(0, .a (.slc 0 0 n cap)), (1, .a (.int .u32 b)), (2, .a (.clo 134 [])), (8, .a (.int .i64 n)), (9, .a (.int .i64 ((q + 1 : Nat) : Int))), (10, .a (.int .i64 j))] [.cells cs 76 mk] ⟨q + 1, j, by omega, hj, rfl, fun hV => ⟨fun p y hp hy => by
          rcases Nat.lt_or_ge p q with h | h
          · have := vvalid_srt hV p q y _ hy hx h; show y.a < b; have h' : y.a < a := this; omega
          · have : p = q := by omega
            subst this
            rw [hx] at hy; cases hy; exact hab, (hv hV).2⟩, rfl, rfl⟩ ⟨rfl, rfl, rfl, rfl, congrArg (fun z => some (V.a (.int .i64 z))) (hw1.symm.trans hw3), rfl, trivial⟩ ⟨ren_pl hp _ _ _, trivial⟩ (by simp [nodupb, baseb, Ob.okb, frmOk, V.okb, A.okb, hp.2] <;> decide)⟩
      · have d4 : decide (u < 0) = false := decide_eq_false (fun h => hab (hlt.1 h))
        conv => whnf
        repeat' ((first | rw [← hw] | ((with_reducible refine y'r ?_ ?_); (· decide +kernel)) | ((with_reducible refine y'g ?_ ?_); (· exact ⟨_, rfl⟩)) | (with_reducible first | refine y'b ‹_› ?_ | refine y'n ‹_› ?_ | refine y'1 ‹_› ?_ | refine y'2 ‹_› ?_ | refine y'3 ?_ | refine y'4 ?_) | ((with_reducible refine y'n ?_ ?_); (· first | with_reducible assumption | exact decide_eq_true (by omega) | decide +kernel)) | (with_reducible first | refine y'n (y'7 ‹_› ‹_›) ?_ | refine y'v (y'8 ‹_› ‹_›) (fun s hs => ?_) | refine y'5 ‹_› ?_ | refine y'6 ‹_› ?_) | ((with_reducible apply y'o); (· exact g0)) | (with_reducible refine y't g1 ?_) | ((with_reducible refine y'p ?_ ?_); (· rfl)) | ((with_reducible refine y'q ?_ ?_); (· rfl)) | (refine Fn.frame [] (by rfl) (by exact trivial) (by rfl) (kc ?_)) | fail) <;> (conv => whnf))
        exact ⟨q - i, by omega, Into.weak [0] [(0, .a (.slc 0 0 n cap)), (1, .a (.int .u32 b)), (2, .a (.clo 134 [])), (8, .a (.int .i64 n)), (9, .a (.int .i64 i)), (10, .a (.int .i64 (q : Nat)))] [.cells cs 76 mk] ⟨i, q, hiq, by omega, rfl, fun hV => ⟨(hv hV).1, fun p y hp hy => by
          rcases Nat.lt_or_ge q p with h | h
          · have h' : a < y.a := vvalid_srt hV q p _ y hx hy h
            show b ≤ y.a; omega
          · have : p = q := by omega
            subst this
            rw [hx] at hy; cases hy; show b ≤ a; omega⟩, rfl, rfl⟩ ⟨rfl, rfl, rfl, rfl, rfl, congrArg (fun z => some (V.a (.int .i64 z))) hw2, trivial⟩ ⟨ren_pl hp _ _ _, trivial⟩ (by simp [nodupb, baseb, Ob.okb, frmOk, V.okb, A.okb, hp.2] <;> decide)⟩
    · have d1 : decide ((i : Int) < (j : Int)) = false := decide_eq_false (by omega)
      obtain rfl : i = j := by omega
      by_cases hn0 : i < n
      · have d2 : decide ((i : Int) < (n : Int)) = true := decide_eq_true (by omega)
        have d3 : decide (0 ≤ (i : Int) ∧ (i : Int) < (n : Int)) = true := decide_eq_true (by omega)
        obtain ⟨x, hx⟩ : ∃ x, D[i]? = some x := ⟨_, List.getElem?_eq_getElem (by omega)⟩
        have hpk : List.drop (0 + (i : Int).toNat * Tryd.prog.types[76].size) (List.take (0 + (i : Int).toNat * Tryd.prog.types[76].size + Tryd.prog.types[76].size) cs) = [.int .u32 x.a, .int .u64 x.c] := by
          rw [Int.toNat_natCast, sDot, Nat.zero_add]; exact hr.at_ i x hx
        have hok : decide (0 + (i : Int).toNat * Tryd.prog.types[76].size + Tryd.prog.types[76].size ≤ cs.length) = true := rw_ok hr (i := i) (by omega) (by rw [Int.toNat_natCast, sDot, Nat.zero_add])
        obtain ⟨a, c⟩ := x
        clear g1
        have g1 := hpk
        have kc := @clo134 ro a c b
        have heq := @cmpI_eq a b
        generalize cmpI a b = u at *
        by_cases hab : a = b
        · have d4 : (u == 0) = true := by rw [heq.2 hab]; rfl
          have hk := hK i true hj (fun _ => ⟨⟨a, c⟩, hx, hab⟩) (fun _ h => by cases h)
          conv => whnf
          repeat' ((first | ((with_reducible refine y'r ?_ ?_); (· decide +kernel)) | ((with_reducible refine y'g ?_ ?_); (· exact ⟨_, rfl⟩)) | (with_reducible first | refine y'b ‹_› ?_ | refine y'n ‹_› ?_ | refine y'1 ‹_› ?_ | refine y'2 ‹_› ?_ | refine y'3 ?_ | refine y'4 ?_) | ((with_reducible refine y'n ?_ ?_); (· first | with_reducible assumption | exact decide_eq_true (by omega) | decide +kernel)) | (with_reducible first | refine y'n (y'7 ‹_› ‹_›) ?_ | refine y'v (y'8 ‹_› ‹_›) (fun s hs => ?_) | refine y'5 ‹_› ?_ | refine y'6 ‹_› ?_) | ((with_reducible apply y'o); (· exact g0)) | (with_reducible refine y't g1 ?_) | ((with_reducible refine y'p ?_ ?_); (· rfl)) | ((with_reducible refine y'q ?_ ?_); (· rfl)) | (refine Fn.frame [] (by rfl) (by exact trivial) (by rfl) (kc ?_)) | fail) <;> (conv => whnf))
          exact keepOf (v₀ := .t [.a (.int .i64 (i : Int)), .a (.bool true)]) [.cells cs 76 mk] [0] (congrArg (fun t => V.t [E.a (.int .i64 (i : Int)), E.a (A.bool t)]) d4) ⟨ren_pl hp _ _ _, trivial⟩ (by simp [nodupb, baseb, Ob.okb, frmOk, V.okb, E.okb, A.okb, hp.2] <;> decide) hk
        · have d4 : (u == 0) = false := beq_eq_false_iff_ne.2 (fun h => hab (heq.1 h))
          have hk := hK i false hj (fun h => by cases h) (fun hV _ p y hy => by
            rcases Nat.lt_trichotomy p i with h | h | h
            · have := (hv hV).1 p y h hy; omega
            · subst h; rw [hx] at hy; cases hy; exact hab
            · have h1 : a < y.a := vvalid_srt hV i p _ y hx hy h
              have h2 : b ≤ a := (hv hV).2 i _ (Nat.le_refl _) hx
              omega)
          conv => whnf
          repeat' ((first | ((with_reducible refine y'r ?_ ?_); (· decide +kernel)) | ((with_reducible refine y'g ?_ ?_); (· exact ⟨_, rfl⟩)) | (with_reducible first | refine y'b ‹_› ?_ | refine y'n ‹_› ?_ | refine y'1 ‹_› ?_ | refine y'2 ‹_› ?_ | refine y'3 ?_ | refine y'4 ?_) | ((with_reducible refine y'n ?_ ?_); (· first | with_reducible assumption | exact decide_eq_true (by omega) | decide +kernel)) | (with_reducible first | refine y'n (y'7 ‹_› ‹_›) ?_ | refine y'v (y'8 ‹_› ‹_›) (fun s hs => ?_) | refine y'5 ‹_› ?_ | refine y'6 ‹_› ?_) | ((with_reducible apply y'o); (· exact g0)) | (with_reducible refine y't g1 ?_) | ((with_reducible refine y'p ?_ ?_); (· rfl)) | ((with_reducible refine y'q ?_ ?_); (· rfl)) | (refine Fn.frame [] (by rfl) (by exact trivial) (by rfl) (kc ?_)) | fail) <;> (conv => whnf))
          exact keepOf (v₀ := .t [.a (.int .i64 (i : Int)), .a (.bool false)]) [.cells cs 76 mk] [0] (congrArg (fun t => V.t [E.a (.int .i64 (i : Int)), E.a (A.bool t)]) d4) ⟨ren_pl hp _ _ _, trivial⟩ (by simp [nodupb, baseb, Ob.okb, frmOk, V.okb, E.okb, A.okb, hp.2] <;> decide) hk
      · have d2 : decide ((i : Int) < (n : Int)) = false := decide_eq_false (by omega)
        have hk := hK i false hj (fun h => by cases h) (fun hV _ p y hy => by
          obtain ⟨h, _⟩ := List.getElem?_eq_some_iff.1 hy
          have := (hv hV).1 p y (by omega) hy
          omega)
        conv => whnf
        repeat' ((first | ((with_reducible refine y'r ?_ ?_); (· decide +kernel)) | ((with_reducible refine y'g ?_ ?_); (· exact ⟨_, rfl⟩)) | (with_reducible first | refine y'b ‹_› ?_ | refine y'n ‹_› ?_ | refine y'1 ‹_› ?_ | refine y'2 ‹_› ?_ | refine y'3 ?_ | refine y'4 ?_) | ((with_reducible refine y'n ?_ ?_); (· first | with_reducible assumption | exact decide_eq_true (by omega) | decide +kernel)) | (with_reducible first | refine y'n (y'7 ‹_› ‹_›) ?_ | refine y'v (y'8 ‹_› ‹_›) (fun s hs => ?_) | refine y'5 ‹_› ?_ | refine y'6 ‹_› ?_) | ((with_reducible apply y'o); (· exact g0)) | (with_reducible refine y't g1 ?_) | ((with_reducible refine y'p ?_ ?_); (· rfl)) | ((with_reducible refine y'q ?_ ?_); (· rfl)) | fail) <;> (conv => whnf))
        exact keepOf (v₀ := .t [.a (.int .i64 (i : Int)), .a (.bool false)]) [.cells cs 76 mk] [0] rfl ⟨ren_pl hp _ _ _, trivial⟩ (by simp [nodupb, baseb, Ob.okb, frmOk, V.okb, E.okb, A.okb, hp.2] <;> decide) hk
end
end Go.Proofs.YtimddbgnaeeggaaDoor.KD
namespace Go.Proofs.YtimddbgnaeeggaaDoor.KD
open Go.Eng
set_option maxRecDepth 100000
/-! ### vector.Count, vector.Covers. -/
theorem plug_pl {cs : List A} (hp : Pl cs) {ty : TypeId} {mk : Bool} {δ : Nat → Nat} {d : Nat} {H : Hp} (hH : H[d]? = some (.cells cs ty mk)) : plugL δ [d] [.cells cs ty mk] H = H := by
  show H.set d (Ob.ren δ (.cells cs ty mk)) ++ [] = H
  rw [← Option.some.inj (ren_pl hp δ ty mk), List.append_nil]
  obtain ⟨hd, e⟩ := List.getElem?_eq_some_iff.1 hH
  rw [← e, List.set_getElem_self]
@[irreducible] def cntD (D : List Dt) (a : Int) : Int := bif vvalid D then (match D.find? (fun x => decide (x.a = a)) with | some x => x.c | none => 0) else 0
theorem cntD_inv {D : List Dt} {a : Int} (h : vvalid D = false) : cntD D a = 0 := by unfold cntD; rw [h]; rfl
theorem cntD_no {D : List Dt} {a : Int} (h : ∀ (j : Nat) (x : Dt), D[j]? = some x → x.a ≠ a) : cntD D a = 0 := by
  unfold cntD
  have e : D.find? (fun x => decide (x.a = a)) = none := List.find?_eq_none.2 (fun x hx => by
    obtain ⟨j, hj⟩ := List.mem_iff_getElem?.1 hx
    have := h j x hj
    simp [this])
  rw [e]; cases vvalid D <;> rfl
theorem cntD_yes {D : List Dt} {a : Int} {i : Nat} {x : Dt} (hV : vvalid D = true) (hx : D[i]? = some x) (ha : x.a = a) : cntD D a = x.c := by
  unfold cntD
  rw [hV]
  cases e : D.find? (fun x => decide (x.a = a)) with
  | none =>
    have := List.find?_eq_none.1 e x (List.mem_of_getElem? hx)
    simp [ha] at this
  | some y =>
    have h1 := List.find?_some e
    have h2 := List.mem_of_find?_eq_some e
    obtain ⟨j, hj⟩ := List.mem_iff_getElem?.1 h2
    have h3 : y.a = a := of_decide_eq_true h1
    show y.c = x.c
    rcases Nat.lt_trichotomy i j with h | h | h
    · have := vvalid_srt hV i j x y hx hj h; omega
    · subst h; rw [hx] at hj; cases hj; rfl
    · have := vvalid_srt hV j i y x hj hx h; omega
@[irreducible] def cvD (D : List Dt) (x : Dt) : Bool := decide (x.c > 0) && decide (x.c ≤ cntD D x.a)
section
variable {ro : Addr → A → Prop}
set_option maxHeartbeats 4000000 in
theorem count118 (D : List Dt) (b : Int) (cs : List A) (n cap : Nat) (mk : Bool) (hr : Rw 2 Dt.row D cs) (hn : n = D.length) (hn9 : n ≤ 70368744177664) {K : V → Hp → Prop}
    (hK : K (.a (.int .u64 (cntD D b))) [.cells cs 76 mk]) :
    Go.Eng.Fn Tryd.prog ro 118 [.a (.slc 0 0 n cap), .a (.int .u32 b)] [.cells cs 76 mk] K := by
  have hp := hr.pl
  have g0 := True.intro
  have g1 := True.intro
  have ks := @search133 ro D b cs n cap mk hr hn hn9
  have kv := @valid97 ro D cs n cap mk hr hn (by omega)
  generalize hvb : vvalid D = vb at *
  refine Fn.weak ?_
  refine Fn.of 1 (gOf []) rfl Tryd.func118 rfl (Nat.le_of_ble_eq_true rfl) ?_
  conv => whnf
  repeat' ((first | ((with_reducible refine y'r ?_ ?_); (· decide +kernel)) | ((with_reducible refine y'g ?_ ?_); (· exact ⟨_, rfl⟩)) | (with_reducible first | refine y'b ‹_› ?_ | refine y'n ‹_› ?_ | refine y'1 ‹_› ?_ | refine y'2 ‹_› ?_ | refine y'3 ?_ | refine y'4 ?_) | ((with_reducible refine y'n ?_ ?_); (· first | with_reducible assumption | exact decide_eq_true (by omega) | decide +kernel)) | (with_reducible first | refine y'n (y'7 ‹_› ‹_›) ?_ | refine y'v (y'8 ‹_› ‹_›) (fun s hs => ?_) | refine y'5 ‹_› ?_ | refine y'6 ‹_› ?_) | ((with_reducible apply y'o); (· exact g0)) | (with_reducible refine y't g1 ?_) | ((with_reducible refine y'p ?_ ?_); (· rfl)) | ((with_reducible refine y'q ?_ ?_); (· rfl)) | fail) <;> (conv => whnf))
  refine Fn.frame [0] (by rfl) (by exact ⟨ren_pl hp _ _ _, trivial⟩) (by simp [nodupb, V.okb, A.okb, Ob.okb, hp.2]) (ks (fun i ok hi h1 h2 => ?_))
  cases ok with
  | false =>
    have hk : K (.a (.int .u64 0)) [.cells cs 76 mk] := by
      cases vb with
      | false => rw [cntD_inv hvb] at hK; exact hK
      | true => rw [cntD_no (h2 rfl rfl)] at hK; exact hK
    clear h1 h2
    conv => whnf
    repeat' ((first | ((with_reducible refine y'r ?_ ?_); (· decide +kernel)) | ((with_reducible refine y'g ?_ ?_); (· exact ⟨_, rfl⟩)) | (with_reducible first | refine y'b ‹_› ?_ | refine y'n ‹_› ?_ | refine y'1 ‹_› ?_ | refine y'2 ‹_› ?_ | refine y'3 ?_ | refine y'4 ?_) | ((with_reducible refine y'n ?_ ?_); (· first | with_reducible assumption | exact decide_eq_true (by omega) | decide +kernel)) | (with_reducible first | refine y'n (y'7 ‹_› ‹_›) ?_ | refine y'v (y'8 ‹_› ‹_›) (fun s hs => ?_) | refine y'5 ‹_› ?_ | refine y'6 ‹_› ?_) | ((with_reducible apply y'o); (· exact g0)) | (with_reducible refine y't g1 ?_) | ((with_reducible refine y'p ?_ ?_); (· rfl)) | ((with_reducible refine y'q ?_ ?_); (· rfl)) | fail) <;> (conv => whnf))
    exact keepOf (v₀ := .a (.int .u64 0)) [.cells cs 76 mk] [0] rfl ⟨ren_pl hp _ _ _, trivial⟩ (by simp [nodupb, baseb, Ob.okb, frmOk, V.okb, A.okb, hp.2] <;> decide) hk
  | true =>
    obtain ⟨x, hx, hxa⟩ := h1 rfl
    obtain ⟨hil, _⟩ := List.getElem?_eq_some_iff.1 hx
    clear h1 h2
    have d1 : decide (0 ≤ (i : Int) ∧ (i : Int) < (n : Int)) = true := decide_eq_true (by omega)
    clear g0
    have g0 : cs[0 + (i : Int).toNat * Tryd.prog.types[76].size + 1]? = some (.int .u64 x.c) := by
      rw [Int.toNat_natCast, sDot, Nat.zero_add]; exact hr.cell (k := 1) hx (by omega) rfl
    cases vb with
    | false =>
      rw [cntD_inv hvb] at hK
      conv => whnf
      repeat' ((first | ((with_reducible refine y'r ?_ ?_); (· decide +kernel)) | ((with_reducible refine y'g ?_ ?_); (· exact ⟨_, rfl⟩)) | (with_reducible first | refine y'b ‹_› ?_ | refine y'n ‹_› ?_ | refine y'1 ‹_› ?_ | refine y'2 ‹_› ?_ | refine y'3 ?_ | refine y'4 ?_) | ((with_reducible refine y'n ?_ ?_); (· first | with_reducible assumption | exact decide_eq_true (by omega) | decide +kernel)) | (with_reducible first | refine y'n (y'7 ‹_› ‹_›) ?_ | refine y'v (y'8 ‹_› ‹_›) (fun s hs => ?_) | refine y'5 ‹_› ?_ | refine y'6 ‹_› ?_) | ((with_reducible apply y'o); (· exact g0)) | (with_reducible refine y't g1 ?_) | ((with_reducible refine y'p ?_ ?_); (· rfl)) | ((with_reducible refine y'q ?_ ?_); (· rfl)) | (refine Fn.frame [0] (by rfl) (by exact ⟨ren_pl hp _ _ _, trivial⟩) (by simp [nodupb, V.okb, A.okb, Ob.okb, hp.2]) (kv ?_)) | fail) <;> (conv => whnf))
      exact keepOf (v₀ := .a (.int .u64 0)) [.cells cs 76 mk] [0] rfl ⟨ren_pl hp _ _ _, trivial⟩ (by simp [nodupb, baseb, Ob.okb, frmOk, V.okb, A.okb, hp.2] <;> decide) hK
    | true =>
      rw [cntD_yes hvb hx hxa] at hK
      conv => whnf
      repeat' ((first | ((with_reducible refine y'r ?_ ?_); (· decide +kernel)) | ((with_reducible refine y'g ?_ ?_); (· exact ⟨_, rfl⟩)) | (with_reducible first | refine y'b ‹_› ?_ | refine y'n ‹_› ?_ | refine y'1 ‹_› ?_ | refine y'2 ‹_› ?_ | refine y'3 ?_ | refine y'4 ?_) | ((with_reducible refine y'n ?_ ?_); (· first | with_reducible assumption | exact decide_eq_true (by omega) | decide +kernel)) | (with_reducible first | refine y'n (y'7 ‹_› ‹_›) ?_ | refine y'v (y'8 ‹_› ‹_›) (fun s hs => ?_) | refine y'5 ‹_› ?_ | refine y'6 ‹_› ?_) | ((with_reducible apply y'o); (· exact g0)) | (with_reducible refine y't g1 ?_) | ((with_reducible refine y'p ?_ ?_); (· rfl)) | ((with_reducible refine y'q ?_ ?_); (· rfl)) | (refine Fn.frame [0] (by rfl) (by exact ⟨ren_pl hp _ _ _, trivial⟩) (by simp [nodupb, V.okb, A.okb, Ob.okb, hp.2]) (kv ?_)) | fail) <;> (conv => whnf))
      exact keepOf (v₀ := .a (.int .u64 x.c)) [.cells cs 76 mk] [0] rfl ⟨ren_pl hp _ _ _, trivial⟩ (by simp [nodupb, baseb, Ob.okb, frmOk, V.okb, A.okb, hp.2] <;> decide) hK
set_option maxHeartbeats 4000000 in
theorem covers99 (D : List Dt) (x : Dt) (cs : List A) (n cap : Nat) (mk : Bool) (hr : Rw 2 Dt.row D cs) (hn : n = D.length) (hn9 : n ≤ 70368744177664) {K : V → Hp → Prop}
    (hK : K (.a (.bool (cvD D x))) [.cells cs 76 mk]) :
    Go.Eng.Fn Tryd.prog ro 99 [.a (.slc 0 0 n cap), .g [.int .u32 x.a, .int .u64 x.c]] [.cells cs 76 mk] K := by
  have hp := hr.pl
  have g0 := True.intro
  have g1 := True.intro
  obtain ⟨a, c⟩ := x
  have kc := @count118 ro D a cs n cap mk hr hn hn9
  unfold cvD at hK
  simp only at hK
  generalize cntD D a = q at *
  refine Fn.weak ?_
  refine Fn.of 1 h99 rfl Tryd.func99 rfl (Nat.le_of_ble_eq_true rfl) ?_
  by_cases h0 : c > 0
  · have c0 : decide (c > 0) = true := decide_eq_true h0
    rw [c0, Bool.true_and] at hK
    conv => whnf
    repeat' ((first | ((with_reducible refine y'r ?_ ?_); (· decide +kernel)) | ((with_reducible refine y'g ?_ ?_); (· exact ⟨_, rfl⟩)) | (with_reducible first | refine y'b ‹_› ?_ | refine y'n ‹_› ?_ | refine y'1 ‹_› ?_ | refine y'2 ‹_› ?_ | refine y'3 ?_ | refine y'4 ?_) | ((with_reducible refine y'n ?_ ?_); (· first | with_reducible assumption | exact decide_eq_true (by omega) | decide +kernel)) | (with_reducible first | refine y'n (y'7 ‹_› ‹_›) ?_ | refine y'v (y'8 ‹_› ‹_›) (fun s hs => ?_) | refine y'5 ‹_› ?_ | refine y'6 ‹_› ?_) | ((with_reducible apply y'o); (· exact g0)) | (with_reducible refine y't g1 ?_) | ((with_reducible refine y'p ?_ ?_); (· rfl)) | ((with_reducible refine y'q ?_ ?_); (· rfl)) | (refine Fn.frame [0] (by rfl) (by exact ⟨ren_pl hp _ _ _, trivial⟩) (by simp [nodupb, V.okb, A.okb, Ob.okb, hp.2]) (kc ?_)) | (refine y'g ⟨[], by rw [List.append_nil]; exact (plug_pl hp rfl).symm⟩ ?_) | fail) <;> (conv => whnf))
    exact keepOf (v₀ := .a (.bool (decide (c ≤ q)))) [.cells cs 76 mk] [0] rfl ⟨ren_pl hp _ _ _, trivial⟩ (by simp [nodupb, baseb, Ob.okb, frmOk, V.okb, A.okb, hp.2] <;> decide) hK
  · have c0 : decide (c > 0) = false := decide_eq_false h0
    rw [c0, Bool.false_and] at hK
    conv => whnf
    repeat' ((first | ((with_reducible refine y'r ?_ ?_); (· decide +kernel)) | ((with_reducible refine y'g ?_ ?_); (· exact ⟨_, rfl⟩)) | (with_reducible first | refine y'b ‹_› ?_ | refine y'n ‹_› ?_ | refine y'1 ‹_› ?_ | refine y'2 ‹_› ?_ | refine y'3 ?_ | refine y'4 ?_) | ((with_reducible refine y'n ?_ ?_); (· first | with_reducible assumption | exact decide_eq_true (by omega) | decide +kernel)) | (with_reducible first | refine y'n (y'7 ‹_› ‹_›) ?_ | refine y'v (y'8 ‹_› ‹_›) (fun s hs => ?_) | refine y'5 ‹_› ?_ | refine y'6 ‹_› ?_) | ((with_reducible apply y'o); (· exact g0)) | (with_reducible refine y't g1 ?_) | ((with_reducible refine y'p ?_ ?_); (· rfl)) | ((with_reducible refine y'q ?_ ?_); (· rfl)) | fail) <;> (conv => whnf))
    exact keepOf (v₀ := .a (.bool false)) [.cells cs 76 mk] [0] rfl ⟨ren_pl hp _ _ _, trivial⟩ (by simp [nodupb, baseb, Ob.okb, frmOk, V.okb, A.okb, hp.2] <;> decide) hK
end
end Go.Proofs.YtimddbgnaeeggaaDoor.KD
namespace Go.Proofs.YtimddbgnaeeggaaDoor.KD
open Go.Eng
set_option maxRecDepth 100000
/-! ### dvv.Valid. -/
def okS (D : List Dt) (E : List Sb) (i : Nat) : Bool :=
  match E[i]? with
  | none => true
  | some x => (decide (i = 0) || match E[i - 1]? with | none => true | some y => decide (ordD y.d x.d < 0)) && (cvD D x.d && (decide (x.v.length ≤ 40) && !(x.g && decide (x.v ≠ []))))
@[irreducible] def validD (D : List Dt) (E : List Sb) : Bool := (vvalid D && decide (E.length ≤ 64)) && (List.range E.length).all (okS D E)
theorem validD_no0 {D : List Dt} {E : List Sb} (h : vvalid D = false) : validD D E = false := by unfold validD; rw [h]; rfl
theorem validD_no1 {D : List Dt} {E : List Sb} (h : ¬ E.length ≤ 64) : validD D E = false := by unfold validD; rw [decide_eq_false h, Bool.and_false]; rfl
theorem validD_no2 {D : List Dt} {E : List Sb} {i : Nat} (hi : i < E.length) (h : okS D E i = false) : validD D E = false := by
  unfold validD
  cases e : (List.range E.length).all (okS D E) with
  | false => rw [Bool.and_false]
  | true => have := List.all_eq_true.1 e i (List.mem_range.2 hi); rw [h] at this; cases this
theorem validD_yes {D : List Dt} {E : List Sb} (hV : vvalid D = true) (hl : E.length ≤ 64) (h : ∀ j, j < E.length → okS D E j = true) : validD D E = true := by
  unfold validD
  rw [hV, decide_eq_true hl, List.all_eq_true.2 (fun j hj => h j (List.mem_range.1 hj))]; rfl
theorem bs_beq0 (L : List UInt8) : (!((bs L).data.toList == ({ data := #[] } : ByteArray).data.toList)) = decide (L ≠ []) := by
  rw [show (bs L).data.toList = L from rfl, show ({ data := #[] } : ByteArray).data.toList = [] from rfl]
  cases L <;> rfl
section
variable {ro : Addr → A → Prop}
set_option maxHeartbeats 8000000 in
theorem valid68 (D : List Dt) (E : List Sb) (cs es : List A) (n cap m cap2 : Nat) (mk mk2 : Bool) (hr : Rw 2 Dt.row D cs) (hs : Rw 4 Sb.row E es) (hn : n = D.length) (hn9 : n ≤ 70368744177664) (hm : m = E.length) (hm9 : m ≤ 70368744177664) {K : V → Hp → Prop}
    (hK : K (.a (.bool (validD D E))) [.cells cs 76 mk, .cells es 78 mk2]) :
    Go.Eng.Fn Tryd.prog ro 68 [.g [.slc 0 0 n cap, .slc 1 0 m cap2]] [.cells cs 76 mk, .cells es 78 mk2] K := by
  have hp := hr.pl
  have hq := hs.pl
  have g1 := True.intro
  have g2 := True.intro
  have kv := @valid97 ro D cs n cap mk hr hn (by omega)
  refine Fn.weak ?_
  refine Fn.of 2 h68 rfl Tryd.func68 rfl (Nat.le_of_ble_eq_true rfl) ?_
  obtain ⟨vb, hvb⟩ : ∃ vb, vb = vvalid D := ⟨_, rfl⟩
  rw [← hvb] at kv
  have hno : validD D E = false → K (.a (.bool false)) [.cells cs 76 mk, .cells es 78 mk2] := fun h => by rw [h] at hK; exact hK
  cases vb with
  | false =>
    have hf := validD_no0 (E := E) hvb.symm
    conv => whnf
    repeat' ((first | ((with_reducible refine y'r ?_ ?_); (· decide +kernel)) | ((with_reducible refine y'g ?_ ?_); (· exact ⟨_, rfl⟩)) | (with_reducible first | refine y'b ‹_› ?_ | refine y'n ‹_› ?_ | refine y'1 ‹_› ?_ | refine y'2 ‹_› ?_ | refine y'3 ?_ | refine y'4 ?_) | ((with_reducible refine y'n ?_ ?_); (· first | with_reducible assumption | exact decide_eq_true (by omega) | decide +kernel)) | (with_reducible first | refine y'n (y'7 ‹_› ‹_›) ?_ | refine y'v (y'8 ‹_› ‹_›) (fun s hs => ?_) | refine y'5 ‹_› ?_ | refine y'6 ‹_› ?_ | refine y't g1 ?_ | refine y't g2 ?_) | ((with_reducible refine y'p ?_ ?_); (· rfl)) | ((with_reducible refine y'q ?_ ?_); (· rfl)) | (refine Fn.frame [0] (by rfl) (by exact ⟨ren_pl hp _ _ _, trivial⟩) (by simp [nodupb, V.okb, A.okb, Ob.okb, hp.2]) (kv ?_)) | fail) <;> (conv => whnf))
    exact keepOf (v₀ := .a (.bool false)) [.cells cs 76 mk, .cells es 78 mk2] [0, 1] rfl ⟨ren_pl hp _ _ _, ren_pl hq _ _ _, trivial⟩ (by simp [nodupb, baseb, Ob.okb, frmOk, V.okb, A.okb, hp.2, hq.2] <;> decide) (hno hf)
  | true =>
    by_cases hl : m ≤ 64
    · have d1 : decide ((m : Int) > 64) = false := decide_eq_false (by omega)
      conv => whnf
      repeat' ((first | ((with_reducible refine y'r ?_ ?_); (· decide +kernel)) | ((with_reducible refine y'g ?_ ?_); (· exact ⟨_, rfl⟩)) | (with_reducible first | refine y'b ‹_› ?_ | refine y'n ‹_› ?_ | refine y'1 ‹_› ?_ | refine y'2 ‹_› ?_ | refine y'3 ?_ | refine y'4 ?_) | ((with_reducible refine y'n ?_ ?_); (· first | with_reducible assumption | exact decide_eq_true (by omega) | decide +kernel)) | (with_reducible first | refine y'n (y'7 ‹_› ‹_›) ?_ | refine y'v (y'8 ‹_› ‹_›) (fun s hs => ?_) | refine y'5 ‹_› ?_ | refine y'6 ‹_› ?_ | refine y't g1 ?_ | refine y't g2 ?_) | ((with_reducible refine y'p ?_ ?_); (· rfl)) | ((with_reducible refine y'q ?_ ?_); (· rfl)) | (refine Fn.frame [0] (by rfl) (by exact ⟨ren_pl hp _ _ _, trivial⟩) (by simp [nodupb, V.okb, A.okb, Ob.okb, hp.2]) (kv ?_)) | fail) <;> (conv => whnf))
      refine loopx_of (fun k F H => ∃ i : Nat, i ≤ m ∧ k = m - i ∧ (∀ j, j < i → okS D E j = true) ∧ F = [(1, .a (.ptr 2 0)), (16, .a (.slc 1 0 m cap2)), (17, .a (.int .i64 m)), (18, .a (.int .i64 i))] ∧ H = [.cells cs 76 mk, .cells es 78 mk2, .cells [.slc 0 0 n cap, .slc 1 0 m cap2] 70 false]) m ?_ ?_
      · exact Into.weak [0, 1, 2] [(1, .a (.ptr 2 0)), (16, .a (.slc 1 0 m cap2)), (17, .a (.int .i64 m)), (18, .a (.int .i64 (0 : Nat)))] [.cells cs 76 mk, .cells es 78 mk2, .cells [.slc 0 0 n cap, .slc 1 0 m cap2] 70 false] ⟨0, Nat.zero_le _, rfl, fun j hj => absurd hj (Nat.not_lt_zero j), rfl, rfl⟩ ⟨rfl, rfl, rfl, rfl, trivial⟩ ⟨ren_pl hp _ _ _, ren_pl hq _ _ _, rfl, trivial⟩ (by simp [nodupb, baseb, Ob.okb, frmOk, V.okb, A.okb, hp.2, hq.2] <;> decide)
      · clear d1 kv
        rintro k F H ⟨i, hi, rfl, hv, rfl, rfl⟩
        by_cases hin : i < m
        · have d1 : decide ((i : Int) < (m : Int)) = true := decide_eq_true (by omega)
          have d2 : decide (0 ≤ (i : Int) ∧ (i : Int) < (m : Int)) = true := decide_eq_true (by omega)
          have hwi : IntKind.i64.wrap ((i : Int) + 1) = ((i + 1 : Nat) : Int) := by rw [i64w (by omega) (by omega)]; rfl
          obtain ⟨x, hx⟩ : ∃ x, E[i]? = some x := ⟨_, List.getElem?_eq_getElem (by omega)⟩
          have hpk : List.drop (0 + (i : Int).toNat * Tryd.prog.types[78].size) (List.take (0 + (i : Int).toNat * Tryd.prog.types[78].size + Tryd.prog.types[78].size) es) = [.int .u32 x.d.a, .int .u64 x.d.c, .bool x.g, .str (bs x.v)] := by
            rw [Int.toNat_natCast, sSib, Nat.zero_add]; exact hs.at_ i x hx
          have hok : decide (0 + (i : Int).toNat * Tryd.prog.types[78].size + Tryd.prog.types[78].size ≤ es.length) = true := rw_ok hs (i := i) (by omega) (by rw [Int.toNat_natCast, sSib, Nat.zero_add])
          have kc := @covers99 ro D x.d cs n cap mk hr hn hn9
          obtain ⟨bc, hbc⟩ : ∃ bc, bc = cvD D x.d := ⟨_, rfl⟩
          rw [← hbc] at kc
          obtain ⟨⟨a, c⟩, g, v⟩ := x
          obtain ⟨s, hsv⟩ : ∃ s, s = bs v := ⟨_, rfl⟩
          have hsz : s.size = v.length := by rw [hsv]; exact bs_size v
          have hse : (!(s.data.toList == ({ data := #[] } : ByteArray).data.toList)) = decide (v ≠ []) := by rw [hsv]; exact bs_beq0 v
          rw [← hsv] at hpk
          clear g1
          have g1 := hpk
          have hno' : okS D E i = false → validD D E = false := fun h => validD_no2 (by omega) h
          have hgo : okS D E i = true → ∀ j, j < i + 1 → okS D E j = true := fun h j hj => by
            rcases Nat.lt_or_ge j i with h' | h'
            · exact hv j h'
            · rw [show j = i by omega]; exact h
          obtain ⟨w, hw⟩ : ∃ w, w = IntKind.i64.wrap ((i : Int) - 1) := ⟨_, rfl⟩
          by_cases h0 : i = 0
          case' pos =>
            have c0 : decide ((i : Int) > 0) = false := decide_eq_false (by omega)
            have ko := True.intro
            have hoks : okS D E i = (cvD D ⟨a, c⟩ && (decide (v.length ≤ 40) && !(g && decide (v ≠ [])))) := by unfold okS; rw [hx, decide_eq_true h0]; rfl
          case' neg =>
            have c0 : decide ((i : Int) > 0) = true := decide_eq_true (by omega)
            have hw2 : w = ((i - 1 : Nat) : Int) := by rw [hw, i64w (by omega) (by omega)]; omega
            obtain ⟨y, hy⟩ : ∃ y, E[i - 1]? = some y := ⟨_, List.getElem?_eq_getElem (by omega)⟩
            have hok2 : decide (0 + w.toNat * Tryd.prog.types[78].size + 0 + Tryd.prog.types[76].size ≤ es.length) = true := by
              have h1 := of_decide_eq_true (rw_ok hs (i := i - 1) (by omega) rfl)
              exact decide_eq_true (by rw [hw2, Int.toNat_natCast, sSib, sDot]; omega)
            have d3 : decide (0 ≤ w ∧ w < (m : Int)) = true := decide_eq_true (by omega)
            have hpk2 : List.drop (0 + w.toNat * Tryd.prog.types[78].size + 0) (List.take (0 + w.toNat * Tryd.prog.types[78].size + 0 + Tryd.prog.types[76].size) es) = [.int .u32 y.d.a, .int .u64 y.d.c] := by
              have h1 := hs.at_ (i - 1) y hy
              have h2 := congrArg (List.take 2) h1
              rw [List.take_drop, List.take_take] at h2
              rw [hw2, Int.toNat_natCast, sSib, sDot, Nat.zero_add, Nat.add_zero]
              rw [show min ((i - 1) * 4 + 2) ((i - 1) * 4 + 4) = (i - 1) * 4 + 2 by omega] at h2
              exact h2
            have ko := @order98 ro y.d ⟨a, c⟩
            have hoks : okS D E i = (decide (ordD y.d ⟨a, c⟩ < 0) && (cvD D ⟨a, c⟩ && (decide (v.length ≤ 40) && !(g && decide (v ≠ []))))) := by unfold okS; rw [hx, hy, decide_eq_false h0]; rfl
            generalize ordD y.d ⟨a, c⟩ = u at *
            obtain ⟨⟨yb, yd⟩, yg, yv⟩ := y
            clear g2
            have g2 := hpk2
            by_cases hu : u < 0
            case' neg =>
              have c5 : decide (u ≥ 0) = true := decide_eq_true (by omega)
              have hf := hno' (by rw [hoks, decide_eq_false hu]; rfl)
              conv => whnf
              repeat' ((first | rw [← hw] | ((with_reducible refine y'r ?_ ?_); (· decide +kernel)) | ((with_reducible refine y'g ?_ ?_); (· exact ⟨_, rfl⟩)) | (with_reducible first | refine y'b ‹_› ?_ | refine y'n ‹_› ?_ | refine y'1 ‹_› ?_ | refine y'2 ‹_› ?_ | refine y'3 ?_ | refine y'4 ?_) | ((with_reducible refine y'n ?_ ?_); (· first | with_reducible assumption | exact decide_eq_true (by omega) | decide +kernel)) | (with_reducible first | refine y'n (y'7 ‹_› ‹_›) ?_ | refine y'v (y'8 ‹_› ‹_›) (fun s hs => ?_) | refine y'5 ‹_› ?_ | refine y'6 ‹_› ?_ | refine y't g1 ?_ | refine y't g2 ?_) | ((with_reducible refine y'p ?_ ?_); (· rfl)) | ((with_reducible refine y'q ?_ ?_); (· rfl)) | (refine Fn.frame [] (by rfl) (by exact trivial) (by rfl) (ko ?_)) | (refine Fn.frame [0] (by rfl) (by exact ⟨ren_pl hp _ _ _, trivial⟩) (by simp [nodupb, V.okb, A.okb, Ob.okb, hp.2]) (kc ?_)) | (refine y'n hok2 ?_) | (refine y't g2 ?_) | (refine y'g ⟨[], by rw [List.append_nil]; exact (plug_pl hp rfl).symm⟩ ?_) | fail) <;> (conv => whnf))
              exact keepOf (v₀ := .a (.bool false)) [.cells cs 76 mk, .cells es 78 mk2] [0, 1] rfl ⟨ren_pl hp _ _ _, ren_pl hq _ _ _, trivial⟩ (by simp [nodupb, baseb, Ob.okb, frmOk, V.okb, A.okb, hp.2, hq.2] <;> decide) (hno hf)
            case' pos =>
              have c5 : decide (u ≥ 0) = false := decide_eq_false (by omega)
              rw [decide_eq_true hu, Bool.true_and] at hoks
          all_goals
            cases bc with
            | false =>
              have hf := hno' (by rw [hoks, ← hbc]; rfl)
              conv => whnf
              repeat' ((first | rw [← hw] | ((with_reducible refine y'r ?_ ?_); (· decide +kernel)) | ((with_reducible refine y'g ?_ ?_); (· exact ⟨_, rfl⟩)) | (with_reducible first | refine y'b ‹_› ?_ | refine y'n ‹_› ?_ | refine y'1 ‹_› ?_ | refine y'2 ‹_› ?_ | refine y'3 ?_ | refine y'4 ?_) | ((with_reducible refine y'n ?_ ?_); (· first | with_reducible assumption | exact decide_eq_true (by omega) | decide +kernel)) | (with_reducible first | refine y'n (y'7 ‹_› ‹_›) ?_ | refine y'v (y'8 ‹_› ‹_›) (fun s hs => ?_) | refine y'5 ‹_› ?_ | refine y'6 ‹_› ?_ | refine y't g1 ?_ | refine y't g2 ?_) | ((with_reducible refine y'p ?_ ?_); (· rfl)) | ((with_reducible refine y'q ?_ ?_); (· rfl)) | (refine Fn.frame [] (by rfl) (by exact trivial) (by rfl) (ko ?_)) | (refine Fn.frame [0] (by rfl) (by exact ⟨ren_pl hp _ _ _, trivial⟩) (by simp [nodupb, V.okb, A.okb, Ob.okb, hp.2]) (kc ?_)) | (refine y'n hok2 ?_) | (refine y't g2 ?_) | (refine y'g ⟨[], by rw [List.append_nil]; exact (plug_pl hp rfl).symm⟩ ?_) | fail) <;> (conv => whnf))
              exact keepOf (v₀ := .a (.bool false)) [.cells cs 76 mk, .cells es 78 mk2] [0, 1] rfl ⟨ren_pl hp _ _ _, ren_pl hq _ _ _, trivial⟩ (by simp [nodupb, baseb, Ob.okb, frmOk, V.okb, A.okb, hp.2, hq.2] <;> decide) (hno hf)
            | true =>
              rw [← hbc, Bool.true_and] at hoks
              by_cases h4 : v.length ≤ 40
              · have c4 : decide ((s.size : Int) > 40) = false := decide_eq_false (by omega)
                rw [decide_eq_true h4, Bool.true_and] at hoks
                cases g with
                | false =>
                  have hf : okS D E i = true := by rw [hoks]; rfl
                  conv => whnf
                  repeat' ((first | rw [← hw] | ((with_reducible refine y'r ?_ ?_); (· decide +kernel)) | ((with_reducible refine y'g ?_ ?_); (· exact ⟨_, rfl⟩)) | (with_reducible first | refine y'b ‹_› ?_ | refine y'n ‹_› ?_ | refine y'1 ‹_› ?_ | refine y'2 ‹_› ?_ | refine y'3 ?_ | refine y'4 ?_) | ((with_reducible refine y'n ?_ ?_); (· first | with_reducible assumption | exact decide_eq_true (by omega) | decide +kernel)) | (with_reducible first | refine y'n (y'7 ‹_› ‹_›) ?_ | refine y'v (y'8 ‹_› ‹_›) (fun s hs => ?_) | refine y'5 ‹_› ?_ | refine y'6 ‹_› ?_ | refine y't g1 ?_ | refine y't g2 ?_) | ((with_reducible refine y'p ?_ ?_); (· rfl)) | ((with_reducible refine y'q ?_ ?_); (· rfl)) | (refine Fn.frame [] (by rfl) (by exact trivial) (by rfl) (ko ?_)) | (refine Fn.frame [0] (by rfl) (by exact ⟨ren_pl hp _ _ _, trivial⟩) (by simp [nodupb, V.okb, A.okb, Ob.okb, hp.2]) (kc ?_)) | (refine y'n hok2 ?_) | (refine y't g2 ?_) | (refine y'g ⟨[], by rw [List.append_nil]; exact (plug_pl hp rfl).symm⟩ ?_) | fail) <;> (conv => whnf))
                  exact ⟨m - (i + 1), by omega, Into.weak [0, 1, 2] [(1, .a (.ptr 2 0)), (16, .a (.slc 1 0 m cap2)), (17, .a (.int .i64 m)), (18, .a (.int .i64 ((i + 1 : Nat) : Int)))] [.cells cs 76 mk, .cells es 78 mk2, .cells [.slc 0 0 n cap, .slc 1 0 m cap2] 70 false] ⟨i + 1, by omega, rfl, hgo hf, rfl, rfl⟩ ⟨rfl, rfl, rfl, congrArg (fun z => some (V.a (.int .i64 z))) hwi, trivial⟩ ⟨ren_pl hp _ _ _, ren_pl hq _ _ _, rfl, trivial⟩ (by simp [nodupb, baseb, Ob.okb, frmOk, V.okb, A.okb, hp.2, hq.2] <;> decide)⟩
                | true =>
                  by_cases h5 : v = []
                  · have c6 : (!(s.data.toList == ({ data := #[] } : ByteArray).data.toList)) = false := by rw [hse]; exact decide_eq_false (by simp [h5])
                    have hf : okS D E i = true := by rw [hoks, h5]; rfl
                    conv => whnf
                    repeat' ((first | rw [← hw] | ((with_reducible refine y'r ?_ ?_); (· decide +kernel)) | ((with_reducible refine y'g ?_ ?_); (· exact ⟨_, rfl⟩)) | (with_reducible first | refine y'b ‹_› ?_ | refine y'n ‹_› ?_ | refine y'1 ‹_› ?_ | refine y'2 ‹_› ?_ | refine y'3 ?_ | refine y'4 ?_) | ((with_reducible refine y'n ?_ ?_); (· first | with_reducible assumption | exact decide_eq_true (by omega) | decide +kernel)) | (with_reducible first | refine y'n (y'7 ‹_› ‹_›) ?_ | refine y'v (y'8 ‹_› ‹_›) (fun s hs => ?_) | refine y'5 ‹_› ?_ | refine y'6 ‹_› ?_ | refine y't g1 ?_ | refine y't g2 ?_) | ((with_reducible refine y'p ?_ ?_); (· rfl)) | ((with_reducible refine y'q ?_ ?_); (· rfl)) | (refine Fn.frame [] (by rfl) (by exact trivial) (by rfl) (ko ?_)) | (refine Fn.frame [0] (by rfl) (by exact ⟨ren_pl hp _ _ _, trivial⟩) (by simp [nodupb, V.okb, A.okb, Ob.okb, hp.2]) (kc ?_)) | (refine y'n hok2 ?_) | (refine y't g2 ?_) | (refine y'g ⟨[], by rw [List.append_nil]; exact (plug_pl hp rfl).symm⟩ ?_) | fail) <;> (conv => whnf))
                    exact ⟨m - (i + 1), by omega, Into.weak [0, 1, 2] [(1, .a (.ptr 2 0)), (16, .a (.slc 1 0 m cap2)), (17, .a (.int .i64 m)), (18, .a (.int .i64 ((i + 1 : Nat) : Int)))] [.cells cs 76 mk, .cells es 78 mk2, .cells [.slc 0 0 n cap, .slc 1 0 m cap2] 70 false] ⟨i + 1, by omega, rfl, hgo hf, rfl, rfl⟩ ⟨rfl, rfl, rfl, congrArg (fun z => some (V.a (.int .i64 z))) hwi, trivial⟩ ⟨ren_pl hp _ _ _, ren_pl hq _ _ _, rfl, trivial⟩ (by simp [nodupb, baseb, Ob.okb, frmOk, V.okb, A.okb, hp.2, hq.2] <;> decide)⟩
                  · have c6 : (!(s.data.toList == ({ data := #[] } : ByteArray).data.toList)) = true := by rw [hse]; exact decide_eq_true h5
                    have hf := hno' (by rw [hoks, decide_eq_true h5]; rfl)
                    conv => whnf
                    repeat' ((first | rw [← hw] | ((with_reducible refine y'r ?_ ?_); (· decide +kernel)) | ((with_reducible refine y'g ?_ ?_); (· exact ⟨_, rfl⟩)) | (with_reducible first | refine y'b ‹_› ?_ | refine y'n ‹_› ?_ | refine y'1 ‹_› ?_ | refine y'2 ‹_› ?_ | refine y'3 ?_ | refine y'4 ?_) | ((with_reducible refine y'n ?_ ?_); (· first | with_reducible assumption | exact decide_eq_true (by omega) | decide +kernel)) | (with_reducible first | refine y'n (y'7 ‹_› ‹_›) ?_ | refine y'v (y'8 ‹_› ‹_›) (fun s hs => ?_) | refine y'5 ‹_› ?_ | refine y'6 ‹_› ?_ | refine y't g1 ?_ | refine y't g2 ?_) | ((with_reducible refine y'p ?_ ?_); (· rfl)) | ((with_reducible refine y'q ?_ ?_); (· rfl)) | (refine Fn.frame [] (by rfl) (by exact trivial) (by rfl) (ko ?_)) | (refine Fn.frame [0] (by rfl) (by exact ⟨ren_pl hp _ _ _, trivial⟩) (by simp [nodupb, V.okb, A.okb, Ob.okb, hp.2]) (kc ?_)) | (refine y'n hok2 ?_) | (refine y't g2 ?_) | (refine y'g ⟨[], by rw [List.append_nil]; exact (plug_pl hp rfl).symm⟩ ?_) | fail) <;> (conv => whnf))
                    exact keepOf (v₀ := .a (.bool false)) [.cells cs 76 mk, .cells es 78 mk2] [0, 1] rfl ⟨ren_pl hp _ _ _, ren_pl hq _ _ _, trivial⟩ (by simp [nodupb, baseb, Ob.okb, frmOk, V.okb, A.okb, hp.2, hq.2] <;> decide) (hno hf)
              · have c4 : decide ((s.size : Int) > 40) = true := decide_eq_true (by omega)
                have hf := hno' (by rw [hoks, decide_eq_false h4]; rfl)
                conv => whnf
                repeat' ((first | rw [← hw] | ((with_reducible refine y'r ?_ ?_); (· decide +kernel)) | ((with_reducible refine y'g ?_ ?_); (· exact ⟨_, rfl⟩)) | (with_reducible first | refine y'b ‹_› ?_ | refine y'n ‹_› ?_ | refine y'1 ‹_› ?_ | refine y'2 ‹_› ?_ | refine y'3 ?_ | refine y'4 ?_) | ((with_reducible refine y'n ?_ ?_); (· first | with_reducible assumption | exact decide_eq_true (by omega) | decide +kernel)) | (with_reducible first | refine y'n (y'7 ‹_› ‹_›) ?_ | refine y'v (y'8 ‹_› ‹_›) (fun s hs => ?_) | refine y'5 ‹_› ?_ | refine y'6 ‹_› ?_ | refine y't g1 ?_ | refine y't g2 ?_) | ((with_reducible refine y'p ?_ ?_); (· rfl)) | ((with_reducible refine y'q ?_ ?_); (· rfl)) | (refine Fn.frame [] (by rfl) (by exact trivial) (by rfl) (ko ?_)) | (refine Fn.frame [0] (by rfl) (by exact ⟨ren_pl hp _ _ _, trivial⟩) (by simp [nodupb, V.okb, A.okb, Ob.okb, hp.2]) (kc ?_)) | (refine y'n hok2 ?_) | (refine y't g2 ?_) | (refine y'g ⟨[], by rw [List.append_nil]; exact (plug_pl hp rfl).symm⟩ ?_) | fail) <;> (conv => whnf))
                exact keepOf (v₀ := .a (.bool false)) [.cells cs 76 mk, .cells es 78 mk2] [0, 1] rfl ⟨ren_pl hp _ _ _, ren_pl hq _ _ _, trivial⟩ (by simp [nodupb, baseb, Ob.okb, frmOk, V.okb, A.okb, hp.2, hq.2] <;> decide) (hno hf)
        · have d1 : decide ((i : Int) < (m : Int)) = false := decide_eq_false (by omega)
          have hk : K (.a (.bool true)) [.cells cs 76 mk, .cells es 78 mk2] := by rw [validD_yes hvb.symm (by omega) (fun j hj => hv j (by omega))] at hK; exact hK
          conv => whnf
          repeat' ((first | ((with_reducible refine y'r ?_ ?_); (· decide +kernel)) | ((with_reducible refine y'g ?_ ?_); (· exact ⟨_, rfl⟩)) | (with_reducible first | refine y'b ‹_› ?_ | refine y'n ‹_› ?_ | refine y'1 ‹_› ?_ | refine y'2 ‹_› ?_ | refine y'3 ?_ | refine y'4 ?_) | ((with_reducible refine y'n ?_ ?_); (· first | with_reducible assumption | exact decide_eq_true (by omega) | decide +kernel)) | (with_reducible first | refine y'n (y'7 ‹_› ‹_›) ?_ | refine y'v (y'8 ‹_› ‹_›) (fun s hs => ?_) | refine y'5 ‹_› ?_ | refine y'6 ‹_› ?_ | refine y't g1 ?_ | refine y't g2 ?_) | ((with_reducible refine y'p ?_ ?_); (· rfl)) | ((with_reducible refine y'q ?_ ?_); (· rfl)) | fail) <;> (conv => whnf))
          exact keepOf (v₀ := .a (.bool true)) [.cells cs 76 mk, .cells es 78 mk2] [0, 1] rfl ⟨ren_pl hp _ _ _, ren_pl hq _ _ _, trivial⟩ (by simp [nodupb, baseb, Ob.okb, frmOk, V.okb, A.okb, hp.2, hq.2] <;> decide) hk
    · have d1 : decide ((m : Int) > 64) = true := decide_eq_true (by omega)
      have hf := validD_no1 (D := D) (E := E) (by omega)
      conv => whnf
      repeat' ((first | ((with_reducible refine y'r ?_ ?_); (· decide +kernel)) | ((with_reducible refine y'g ?_ ?_); (· exact ⟨_, rfl⟩)) | (with_reducible first | refine y'b ‹_› ?_ | refine y'n ‹_› ?_ | refine y'1 ‹_› ?_ | refine y'2 ‹_› ?_ | refine y'3 ?_ | refine y'4 ?_) | ((with_reducible refine y'n ?_ ?_); (· first | with_reducible assumption | exact decide_eq_true (by omega) | decide +kernel)) | (with_reducible first | refine y'n (y'7 ‹_› ‹_›) ?_ | refine y'v (y'8 ‹_› ‹_›) (fun s hs => ?_) | refine y'5 ‹_› ?_ | refine y'6 ‹_› ?_ | refine y't g1 ?_ | refine y't g2 ?_) | ((with_reducible refine y'p ?_ ?_); (· rfl)) | ((with_reducible refine y'q ?_ ?_); (· rfl)) | (refine Fn.frame [0] (by rfl) (by exact ⟨ren_pl hp _ _ _, trivial⟩) (by simp [nodupb, V.okb, A.okb, Ob.okb, hp.2]) (kv ?_)) | fail) <;> (conv => whnf))
      exact keepOf (v₀ := .a (.bool false)) [.cells cs 76 mk, .cells es 78 mk2] [0, 1] rfl ⟨ren_pl hp _ _ _, ren_pl hq _ _ _, trivial⟩ (by simp [nodupb, baseb, Ob.okb, frmOk, V.okb, A.okb, hp.2, hq.2] <;> decide) (hno hf)
end
end Go.Proofs.YtimddbgnaeeggaaDoor.KD
namespace Go.Proofs.YtimddbgnaeeggaaDoor.KD
open Go.Eng
set_option maxRecDepth 100000
/-! ### kinds.Resolve. -/
def accB : Option Va → List UInt8
  | none => []
  | some a => a.bytes
/-- What the values of the first n siblings come to. -/
structure Climb (P : Nat → Option Va) (L : List Sb) (n : Nat) : Prop where
  zero : P 0 = none
  gone : ∀ (i : Nat) (x : Sb), i < n → L[i]? = some x → x.g = true → P (i + 1) = P i
  first : ∀ (i : Nat) (x : Sb), i < n → L[i]? = some x → x.g = false → P i = none → ∃ v : Va, v.ok ∧ x.v = v.bytes ∧ P (i + 1) = some v
  next : ∀ (i : Nat) (x : Sb) (a : Va), i < n → L[i]? = some x → x.g = false → P i = some a → ∃ v : Va, v.ok ∧ x.v = v.bytes ∧ a.kind = v.kind ∧ P (i + 1) = some (a.jn v)
  ok : ∀ (i : Nat) (a : Va), i ≤ n → P i = some a → a.ok
inductive Res (D : List Dt) (L : List Sb) : List UInt8 → Int → Prop
  | inval (h : validD D L = false) : Res D L [] 110
  | val (P : Nat → Option Va) (hV : validD D L = true) (h : Climb P L L.length) : Res D L (accB (P L.length)) 0
  | bad (P : Nat → Option Va) (q : Nat) (x : Sb) (hV : validD D L = true) (h : Climb P L q) (hx : L[q]? = some x) (hg : x.g = false) (hk : kd x.v = 0) : Res D L [] 120
theorem Va.bytes_cons (a : Va) : ∃ T, a.bytes = a.kind :: T := by
  cases a <;> exact ⟨_, rfl⟩
theorem bs_eq0 (L : List UInt8) : ((bs L).data.toList == ({ data := #[] } : ByteArray).data.toList) = decide (L = []) := by
  rw [show (bs L).data.toList = L from rfl, show ({ data := #[] } : ByteArray).data.toList = [] from rfl]
  cases L <;> rfl
section
variable {ro : Addr → A → Prop}
set_option maxHeartbeats 8000000 in
theorem resolve8 (hT : Tabs ro) (D : List Dt) (L : List Sb) (cs es : List A) (n cap m cap2 : Nat) (mk mk2 : Bool) (hr : Rw 2 Dt.row D cs) (hs : Rw 4 Sb.row L es) (hn : n = D.length) (hn9 : n ≤ 70368744177664) (hm : m = L.length) (hm9 : m ≤ 70368744177664) (V0 : List UInt8) (e0 : Int) (hR : Res D L V0 e0) {K : V → Hp → Prop}
    (hK : K (.t [.a (.str (bs V0)), .a (.int .i64 e0)]) [.cells cs 76 mk, .cells es 78 mk2]) :
    Go.Eng.Fn Tryd.prog ro 40 [.g [.slc 0 0 n cap, .slc 1 0 m cap2]] [.cells cs 76 mk, .cells es 78 mk2] K := by
  have hp := hr.pl
  have hq := hs.pl
  have g0 := True.intro
  have g1 := True.intro
  have kv := @valid68 ro D L cs es n cap m cap2 mk mk2 hr hs hn hn9 hm hm9
  refine Fn.weak ?_
  refine Fn.of 2 (gOf []) rfl Tryd.func40 rfl (Nat.le_of_ble_eq_true rfl) ?_
  have key : validD D L = true → (∃ (P : Nat → Option Va) (q : Nat), q ≤ m ∧ Climb P L q ∧ (q = m → V0 = accB (P m) ∧ e0 = 0) ∧ (q ≠ m → ∃ x, L[q]? = some x ∧ x.g = false ∧ kd x.v = 0 ∧ V0 = [] ∧ e0 = 120)) := fun hV => by
    cases hR with
    | inval h => rw [hV] at h; cases h
    | val P _ h => exact ⟨P, m, Nat.le_refl _, by rw [hm]; exact h, fun _ => ⟨by rw [hm], rfl⟩, fun h => absurd rfl h⟩
    | bad P q x _ h hx hg hk =>
      obtain ⟨h1, _⟩ := List.getElem?_eq_some_iff.1 hx
      exact ⟨P, q, by omega, h, fun h => by omega, fun _ => ⟨x, hx, hg, hk, rfl, rfl⟩⟩
  have key2 : validD D L = false → V0 = [] ∧ e0 = 110 := fun hV => by
    cases hR with
    | inval h => exact ⟨rfl, rfl⟩
    | val P h _ => rw [hV] at h; cases h
    | bad P q x h => rw [hV] at h; cases h
  clear hR
  obtain ⟨vb, hvb⟩ : ∃ vb, vb = validD D L := ⟨_, rfl⟩
  rw [← hvb] at kv key key2
  cases vb with
  | false =>
    obtain ⟨rfl, rfl⟩ := key2 rfl
    conv => whnf
    repeat' ((first | ((with_reducible refine y'r ?_ ?_); (· decide +kernel)) | ((with_reducible refine y'g ?_ ?_); (· exact ⟨_, rfl⟩)) | (with_reducible first | refine y'b ‹_› ?_ | refine y'n ‹_› ?_ | refine y'1 ‹_› ?_ | refine y'2 ‹_› ?_ | refine y'3 ?_ | refine y'4 ?_) | ((with_reducible refine y'n ?_ ?_); (· first | with_reducible assumption | exact decide_eq_true (by omega) | decide +kernel)) | (with_reducible first | refine y'n (y'7 ‹_› ‹_›) ?_ | refine y'v (y'8 ‹_› ‹_›) (fun s hs => ?_) | refine y'5 ‹_› ?_ | refine y'6 ‹_› ?_) | ((with_reducible apply y'o); (· exact g0)) | (with_reducible refine y't g1 ?_) | ((with_reducible refine y'p ?_ ?_); (· rfl)) | ((with_reducible refine y'q ?_ ?_); (· rfl)) | (refine Fn.frame [0, 1] (by rfl) (by exact ⟨ren_pl hp _ _ _, ren_pl hq _ _ _, trivial⟩) (by simp [nodupb, V.okb, A.okb, Ob.okb, hp.2, hq.2] <;> rfl) (kv ?_)) | fail) <;> (conv => whnf))
    exact keepOf (v₀ := .t [.a (.str (bs [])), .a (.int .i64 110)]) [.cells cs 76 mk, .cells es 78 mk2] [0, 1] rfl ⟨ren_pl hp _ _ _, ren_pl hq _ _ _, trivial⟩ (by simp [nodupb, baseb, Ob.okb, frmOk, V.okb, E.okb, A.okb, hp.2, hq.2] <;> decide) hK
  | true =>
    obtain ⟨P, q, hqm, hC, hfin, hbad⟩ := key rfl
    clear key key2
    conv => whnf
    repeat' ((first | ((with_reducible refine y'r ?_ ?_); (· decide +kernel)) | ((with_reducible refine y'g ?_ ?_); (· exact ⟨_, rfl⟩)) | (with_reducible first | refine y'b ‹_› ?_ | refine y'n ‹_› ?_ | refine y'1 ‹_› ?_ | refine y'2 ‹_› ?_ | refine y'3 ?_ | refine y'4 ?_) | ((with_reducible refine y'n ?_ ?_); (· first | with_reducible assumption | exact decide_eq_true (by omega) | decide +kernel)) | (with_reducible first | refine y'n (y'7 ‹_› ‹_›) ?_ | refine y'v (y'8 ‹_› ‹_›) (fun s hs => ?_) | refine y'5 ‹_› ?_ | refine y'6 ‹_› ?_) | ((with_reducible apply y'o); (· exact g0)) | (with_reducible refine y't g1 ?_) | ((with_reducible refine y'p ?_ ?_); (· rfl)) | ((with_reducible refine y'q ?_ ?_); (· rfl)) | (refine Fn.frame [0, 1] (by rfl) (by exact ⟨ren_pl hp _ _ _, ren_pl hq _ _ _, trivial⟩) (by simp [nodupb, V.okb, A.okb, Ob.okb, hp.2, hq.2] <;> rfl) (kv ?_)) | fail) <;> (conv => whnf))
    refine loopx_of (fun k F H => ∃ (i : Nat) (s : ByteArray), i ≤ q ∧ k = m - i ∧ s = bs (accB (P i)) ∧ F = [(4, .a (.str s)), (12, .a (.slc 1 0 m cap2)), (13, .a (.int .i64 m)), (14, .a (.int .i64 i))] ∧ H = [.cells cs 76 mk, .cells es 78 mk2]) m ?_ ?_
    · exact Into.weak [0, 1] [(4, .a (.str (bs []))), (12, .a (.slc 1 0 m cap2)), (13, .a (.int .i64 m)), (14, .a (.int .i64 (0 : Nat)))] [.cells cs 76 mk, .cells es 78 mk2] ⟨0, bs [], Nat.zero_le _, rfl, by rw [hC.zero]; rfl, rfl, rfl⟩ ⟨rfl, rfl, rfl, rfl, trivial⟩ ⟨ren_pl hp _ _ _, ren_pl hq _ _ _, trivial⟩ (by simp [nodupb, baseb, Ob.okb, frmOk, V.okb, A.okb, hp.2, hq.2] <;> decide)
    · clear kv
      rintro k F H ⟨i, s, hi, rfl, hsA, rfl, rfl⟩
      by_cases hin : i < m
      · have d1 : decide ((i : Int) < (m : Int)) = true := decide_eq_true (by omega)
        have d2 : decide (0 ≤ (i : Int) ∧ (i : Int) < (m : Int)) = true := decide_eq_true (by omega)
        have hwi : IntKind.i64.wrap ((i : Int) + 1) = ((i + 1 : Nat) : Int) := by rw [i64w (by omega) (by omega)]; rfl
        obtain ⟨x, hx⟩ : ∃ x, L[i]? = some x := ⟨_, List.getElem?_eq_getElem (by omega)⟩
        have hpk : List.drop (0 + (i : Int).toNat * Tryd.prog.types[78].size) (List.take (0 + (i : Int).toNat * Tryd.prog.types[78].size + Tryd.prog.types[78].size) es) = [.int .u32 x.d.a, .int .u64 x.d.c, .bool x.g, .str (bs x.v)] := by
          rw [Int.toNat_natCast, sSib, Nat.zero_add]; exact hs.at_ i x hx
        have hok : decide (0 + (i : Int).toNat * Tryd.prog.types[78].size + Tryd.prog.types[78].size ≤ es.length) = true := rw_ok hs (i := i) (by omega) (by rw [Int.toNat_natCast, sSib, Nat.zero_add])
        have hse : (!(s.data.toList == ({ data := #[] } : ByteArray).data.toList)) = decide (accB (P i) ≠ []) := by rw [hsA]; exact bs_beq0 _
        have hse' : (s.data.toList == ({ data := #[] } : ByteArray).data.toList) = decide (accB (P i) = []) := by rw [hsA]; exact bs_eq0 _
        obtain ⟨⟨xa, xc⟩, g, v⟩ := x
        have kk := @kindB ro v
        obtain ⟨kz, hkz⟩ : ∃ z : Int, z = ((kd v : Nat) : Int) := ⟨_, rfl⟩
        rw [← hkz] at kk
        obtain ⟨y, hy⟩ : ∃ y, y = bs v := ⟨_, rfl⟩
        simp only at hpk
        rw [← hy] at kk hpk
        clear g1
        have g1 := hpk
        have kb := True.intro
        cases g with
        | true =>
          have hiq : i < q := by
            rcases Nat.lt_or_ge i q with h | h
            · exact h
            · have : q ≠ m := by omega
              obtain ⟨x, hx', hg, _⟩ := hbad this
              rw [show q = i by omega, hx] at hx'
              cases hx'
              cases hg
          obtain ⟨t, ht0⟩ : ∃ t, t = s := ⟨_, rfl⟩
          have ht : t = bs (accB (P (i + 1))) := by rw [hC.gone i _ hiq hx rfl, ht0, hsA]
          subst ht0
          conv => whnf
          repeat' ((first | ((with_reducible refine y'r ?_ ?_); (· decide +kernel)) | ((with_reducible refine y'g ?_ ?_); (· exact ⟨_, rfl⟩)) | (with_reducible first | refine y'b ‹_› ?_ | refine y'n ‹_› ?_ | refine y'1 ‹_› ?_ | refine y'2 ‹_› ?_ | refine y'3 ?_ | refine y'4 ?_) | ((with_reducible refine y'n ?_ ?_); (· first | with_reducible assumption | exact decide_eq_true (by omega) | decide +kernel)) | (with_reducible first | refine y'n (y'7 ‹_› ‹_›) ?_ | refine y'v (y'8 ‹_› ‹_›) (fun s hs => ?_) | refine y'5 ‹_› ?_ | refine y'6 ‹_› ?_) | ((with_reducible apply y'o); (· exact g0)) | (with_reducible refine y't g1 ?_) | ((with_reducible refine y'p ?_ ?_); (· rfl)) | ((with_reducible refine y'q ?_ ?_); (· rfl)) | fail) <;> (conv => whnf))
          exact ⟨m - (i + 1), by omega, Into.weak [0, 1] [(4, .a (.str t)), (12, .a (.slc 1 0 m cap2)), (13, .a (.int .i64 m)), (14, .a (.int .i64 ((i + 1 : Nat) : Int)))] [.cells cs 76 mk, .cells es 78 mk2] ⟨i + 1, t, by omega, rfl, ht, rfl, rfl⟩ ⟨rfl, rfl, rfl, congrArg (fun z => some (V.a (.int .i64 z))) hwi, trivial⟩ ⟨ren_pl hp _ _ _, ren_pl hq _ _ _, trivial⟩ (by simp [nodupb, baseb, Ob.okb, frmOk, V.okb, A.okb, hp.2, hq.2] <;> decide)⟩
        | false =>
          by_cases hiq : i < q
          · cases hA : P i with
            | none =>
              obtain ⟨w, hw, hwv, hA1⟩ := hC.first i _ hiq hx rfl hA
              have hk0 : (kz == 0) = false := by
                rw [hkz, kd_va hw hwv]
                have := w.kind_ne
                simp; omega
              rw [hA] at hse hse'
              have c1 : (!(s.data.toList == ({ data := #[] } : ByteArray).data.toList)) = false := hse
              have c2 : (s.data.toList == ({ data := #[] } : ByteArray).data.toList) = true := hse'
              obtain ⟨t, ht0⟩ : ∃ t, t = y := ⟨_, rfl⟩
              have ht : t = bs (accB (P (i + 1))) := by rw [hA1, ht0, hy]; exact congrArg bs hwv
              subst ht0
              conv => whnf
              repeat' ((first | ((with_reducible refine y'r ?_ ?_); (· decide +kernel)) | ((with_reducible refine y'g ?_ ?_); (· exact ⟨_, rfl⟩)) | (with_reducible first | refine y'b ‹_› ?_ | refine y'n ‹_› ?_ | refine y'1 ‹_› ?_ | refine y'2 ‹_› ?_ | refine y'3 ?_ | refine y'4 ?_) | ((with_reducible refine y'n ?_ ?_); (· first | with_reducible assumption | exact decide_eq_true (by omega) | decide +kernel)) | (with_reducible first | refine y'n (y'7 ‹_› ‹_›) ?_ | refine y'v (y'8 ‹_› ‹_›) (fun s hs => ?_) | refine y'5 ‹_› ?_ | refine y'6 ‹_› ?_) | ((with_reducible apply y'o); (· exact g0)) | (with_reducible refine y't g1 ?_) | ((with_reducible refine y'p ?_ ?_); (· rfl)) | ((with_reducible refine y'q ?_ ?_); (· rfl)) | (refine Fn.frame [] (by rfl) (by exact trivial) (by rfl) (kk ?_)) | (refine Fn.frame [] (by rfl) (by exact trivial) (by rfl) (kb ?_)) | fail) <;> (conv => whnf))
              exact ⟨m - (i + 1), by omega, Into.weak [0, 1] [(4, .a (.str t)), (12, .a (.slc 1 0 m cap2)), (13, .a (.int .i64 m)), (14, .a (.int .i64 ((i + 1 : Nat) : Int)))] [.cells cs 76 mk, .cells es 78 mk2] ⟨i + 1, t, by omega, rfl, ht, rfl, rfl⟩ ⟨rfl, rfl, rfl, congrArg (fun z => some (V.a (.int .i64 z))) hwi, trivial⟩ ⟨ren_pl hp _ _ _, ren_pl hq _ _ _, trivial⟩ (by simp [nodupb, baseb, Ob.okb, frmOk, V.okb, A.okb, hp.2, hq.2] <;> decide)⟩
            | some a =>
              obtain ⟨w, hw, hwv, hkw, hA1⟩ := hC.next i _ a hiq hx rfl hA
              have hak := hC.ok i a (by omega) hA
              have hk0 : (kz == 0) = false := by
                rw [hkz, kd_va hw hwv]
                have := w.kind_ne
                simp; omega
              obtain ⟨T, hT2⟩ := a.bytes_cons
              rw [hA] at hse hse' hsA
              have c1 : (!(s.data.toList == ({ data := #[] } : ByteArray).data.toList)) = true := by rw [hse]; show decide (a.bytes ≠ []) = true; rw [hT2]; rfl
              have c2 : (s.data.toList == ({ data := #[] } : ByteArray).data.toList) = false := by rw [hse']; show decide (a.bytes = []) = false; rw [hT2]; rfl
              clear kb g0
              have kb := @bothV ro hT a w hak hw hkw
              rw [← show s = bs a.bytes from hsA, ← hwv, ← hy] at kb
              have g0 : byteAt s 0 = some a.kind := by rw [show s = bs a.bytes from hsA, hT2]; exact byteAt_bs (i := 0) rfl
              have c3 : ((a.kind.toNat : Int) != kz) = false := by rw [hkz, kd_va hw hwv, hkw]; simp
              obtain ⟨t, ht0⟩ : ∃ t, t = bs (a.jn w).bytes := ⟨_, rfl⟩
              have ht : t = bs (accB (P (i + 1))) := by rw [hA1, ht0]; rfl
              rw [← ht0] at kb
              conv => whnf
              repeat' ((first | ((with_reducible refine y'r ?_ ?_); (· decide +kernel)) | ((with_reducible refine y'g ?_ ?_); (· exact ⟨_, rfl⟩)) | (with_reducible first | refine y'b ‹_› ?_ | refine y'n ‹_› ?_ | refine y'1 ‹_› ?_ | refine y'2 ‹_› ?_ | refine y'3 ?_ | refine y'4 ?_) | ((with_reducible refine y'n ?_ ?_); (· first | with_reducible assumption | exact decide_eq_true (by omega) | decide +kernel)) | (with_reducible first | refine y'n (y'7 ‹_› ‹_›) ?_ | refine y'v (y'8 ‹_› ‹_›) (fun s hs => ?_) | refine y'5 ‹_› ?_ | refine y'6 ‹_› ?_) | ((with_reducible apply y'o); (· exact g0)) | (with_reducible refine y't g1 ?_) | ((with_reducible refine y'p ?_ ?_); (· rfl)) | ((with_reducible refine y'q ?_ ?_); (· rfl)) | (refine Fn.frame [] (by rfl) (by exact trivial) (by rfl) (kk ?_)) | (refine Fn.frame [] (by rfl) (by exact trivial) (by rfl) (kb ?_)) | fail) <;> (conv => whnf))
              exact ⟨m - (i + 1), by omega, Into.weak [0, 1] [(4, .a (.str t)), (12, .a (.slc 1 0 m cap2)), (13, .a (.int .i64 m)), (14, .a (.int .i64 ((i + 1 : Nat) : Int)))] [.cells cs 76 mk, .cells es 78 mk2] ⟨i + 1, t, by omega, rfl, ht, rfl, rfl⟩ ⟨rfl, rfl, rfl, congrArg (fun z => some (V.a (.int .i64 z))) hwi, trivial⟩ ⟨ren_pl hp _ _ _, ren_pl hq _ _ _, trivial⟩ (by simp [nodupb, baseb, Ob.okb, frmOk, V.okb, A.okb, hp.2, hq.2] <;> decide)⟩
          · have hqm2 : q ≠ m := by omega
            obtain ⟨x, hx', hg, hk, rfl, rfl⟩ := hbad hqm2
            rw [show q = i by omega, hx] at hx'
            cases hx'
            have hk0 : (kz == 0) = true := by rw [hkz, hk]; rfl
            conv => whnf
            repeat' ((first | ((with_reducible refine y'r ?_ ?_); (· decide +kernel)) | ((with_reducible refine y'g ?_ ?_); (· exact ⟨_, rfl⟩)) | (with_reducible first | refine y'b ‹_› ?_ | refine y'n ‹_› ?_ | refine y'1 ‹_› ?_ | refine y'2 ‹_› ?_ | refine y'3 ?_ | refine y'4 ?_) | ((with_reducible refine y'n ?_ ?_); (· first | with_reducible assumption | exact decide_eq_true (by omega) | decide +kernel)) | (with_reducible first | refine y'n (y'7 ‹_› ‹_›) ?_ | refine y'v (y'8 ‹_› ‹_›) (fun s hs => ?_) | refine y'5 ‹_› ?_ | refine y'6 ‹_› ?_) | ((with_reducible apply y'o); (· exact g0)) | (with_reducible refine y't g1 ?_) | ((with_reducible refine y'p ?_ ?_); (· rfl)) | ((with_reducible refine y'q ?_ ?_); (· rfl)) | (refine Fn.frame [] (by rfl) (by exact trivial) (by rfl) (kk ?_)) | (refine Fn.frame [] (by rfl) (by exact trivial) (by rfl) (kb ?_)) | fail) <;> (conv => whnf))
            exact keepOf (v₀ := .t [.a (.str (bs [])), .a (.int .i64 120)]) [.cells cs 76 mk, .cells es 78 mk2] [0, 1] rfl ⟨ren_pl hp _ _ _, ren_pl hq _ _ _, trivial⟩ (by simp [nodupb, baseb, Ob.okb, frmOk, V.okb, E.okb, A.okb, hp.2, hq.2] <;> decide) hK
      · have d1 : decide ((i : Int) < (m : Int)) = false := decide_eq_false (by omega)
        have him : i = m := by omega
        obtain ⟨rfl, rfl⟩ := hfin (by omega)
        rw [him] at hsA
        rw [← hsA] at hK
        have hsz : s.size ≤ 40 := by
          rw [hsA, bs_size]
          cases hA : P m with
          | none => exact Nat.zero_le _
          | some a => exact Va.len (hC.ok m a (by omega) hA)
        have d2 : decide ((s.size : Int) > 40) = false := decide_eq_false (by omega)
        conv => whnf
        repeat' ((first | ((with_reducible refine y'r ?_ ?_); (· decide +kernel)) | ((with_reducible refine y'g ?_ ?_); (· exact ⟨_, rfl⟩)) | (with_reducible first | refine y'b ‹_› ?_ | refine y'n ‹_› ?_ | refine y'1 ‹_› ?_ | refine y'2 ‹_› ?_ | refine y'3 ?_ | refine y'4 ?_) | ((with_reducible refine y'n ?_ ?_); (· first | with_reducible assumption | exact decide_eq_true (by omega) | decide +kernel)) | (with_reducible first | refine y'n (y'7 ‹_› ‹_›) ?_ | refine y'v (y'8 ‹_› ‹_›) (fun s hs => ?_) | refine y'5 ‹_› ?_ | refine y'6 ‹_› ?_) | ((with_reducible apply y'o); (· exact g0)) | (with_reducible refine y't g1 ?_) | ((with_reducible refine y'p ?_ ?_); (· rfl)) | ((with_reducible refine y'q ?_ ?_); (· rfl)) | fail) <;> (conv => whnf))
        exact keepOf (v₀ := .t [.a (.str s), .a (.int .i64 0)]) [.cells cs 76 mk, .cells es 78 mk2] [0, 1] rfl ⟨ren_pl hp _ _ _, ren_pl hq _ _ _, trivial⟩ (by simp [nodupb, baseb, Ob.okb, frmOk, V.okb, E.okb, A.okb, hp.2, hq.2] <;> decide) hK
end
end Go.Proofs.YtimddbgnaeeggaaDoor.KD
namespace Go.Proofs.YtimddbgnaeeggaaDoor.KD
open Go.Eng
set_option maxRecDepth 100000
/-! ### KindsAnyDots, plainly: joins in whichever order. -/
theorem flat_sub : ∀ (a b : List Nat), Rise a → Rise b → (∀ r ∈ a, r ∈ b) → (flat a).length ≤ (flat b).length
  | [], b, _, _, _ => by rw [flat_nil]; exact Nat.zero_le _
  | x :: a, [], _, _, h => by have := h x (by simp); simp at this
  | x :: a, y :: b, ha, hb, h => by
    have ha' := List.pairwise_cons.1 ha
    have hb' := List.pairwise_cons.1 hb
    by_cases e : x = y
    · subst e
      have h1 := flat_sub a b ha'.2 hb'.2 (fun r hr => by
        rcases List.mem_cons.1 (h r (by simp [hr])) with e | e
        · have := ha'.1 r hr; omega
        · exact e)
      rw [flat_clen, flat_clen]; omega
    · have hx : x ∈ b := by
        rcases List.mem_cons.1 (h x (by simp)) with e' | e'
        · exact absurd e' e
        · exact e'
      have h1 := flat_sub (x :: a) b ha hb'.2 (fun r hr => by
        rcases List.mem_cons.1 (h r hr) with e' | e'
        · have h2 := hb'.1 x hx
          rcases List.mem_cons.1 hr with e2 | e2
          · exact absurd (e2.symm.trans e') e
          · have := ha'.1 r e2; omega
        · exact e')
      rw [flat_clen y b]; omega
/-- Below one value, joins keep their size. -/
theorem jn_ok_of {a v t : Va} (ha : a.ok) (hv : v.ok) (ht : t.ok) (hk : a.kind = v.kind) (hk' : v.kind = t.kind) (h1 : a.jn t = t) (h2 : v.jn t = t) : (a.jn v).ok := by
  have h3 : (a.jn v).jn t = t := by rw [Va.jn_assoc ha hv ht hk hk', h2, h1]
  cases two_of hk with
  | flag x y => trivial
  | real x y => exact can_gt ha hv
  | tally x y => exact Ct.mx ha hv
  | runes x y =>
    obtain ⟨z, rfl⟩ := kind_4' (v := t) hk'.symm
    have hr := mg_rise ha.2.1 hv.2.1
    refine ⟨mg_allv ha.1 hv.1, hr, ?_⟩
    have h4 : mg (mg x y) z = z := by simp only [Va.jn] at h3; exact Va.runes.inj h3
    have := flat_sub (mg x y) z hr ht.2.1 (fun r hr => by rw [← h4]; exact (mg_mem _ _ _).2 (.inl hr))
    have := ht.2.2
    omega
  | corner x y x' y' => exact ⟨can_gt ha.1 hv.1, can_gt ha.2 hv.2⟩
open Classical in
/-- The value of bytes. -/
@[irreducible] noncomputable def vaOf (L : List UInt8) : Va := if h : IsVa L then Classical.choose h else .flag false
theorem vaOf_of {v : Va} (hv : v.ok) {L : List UInt8} (e : L = v.bytes) : vaOf L = v := by
  have h : IsVa L := ⟨v, hv, e⟩
  unfold vaOf
  rw [dif_pos h]
  have hc := Classical.choose_spec h
  exact Va.inj hc.1 hv (hc.2.symm.trans e)
noncomputable def stepV (a : Option Va) (x : Sb) : Option Va := bif x.g then a else match a with | none => some (vaOf x.v) | some a => some (a.jn (vaOf x.v))
noncomputable def accV (L : List Sb) (i : Nat) : Option Va := (L.take i).foldl stepV none
theorem accV_s {L : List Sb} {i : Nat} {x : Sb} (h : L[i]? = some x) : accV L (i + 1) = stepV (accV L i) x := by
  unfold accV
  rw [List.take_add_one, h, List.foldl_append]; rfl
/-- Every value of the row is of T's kind and below it. -/
def Under (T : Va) (L : List Sb) : Prop := ∀ x ∈ L, x.g = false → ∃ v : Va, v.ok ∧ x.v = v.bytes ∧ v.kind = T.kind ∧ v.jn T = T
def Inv (T : Va) (L : List Sb) (i : Nat) (o : Option Va) : Prop :=
  match o with
  | none => ∀ (j : Nat) (x : Sb), j < i → L[j]? = some x → x.g = true
  | some a => a.ok ∧ a.kind = T.kind ∧ a.jn T = T ∧ ∀ (j : Nat) (x : Sb), j < i → L[j]? = some x → x.g = false → (vaOf x.v).jn a = a
theorem inv_all {T : Va} (hT : T.ok) {L : List Sb} (hU : Under T L) : ∀ i, i ≤ L.length → Inv T L i (accV L i)
  | 0, _ => by show Inv T L 0 none; exact fun j x hj _ => absurd hj (Nat.not_lt_zero j)
  | i + 1, hi => by
    have ih := inv_all hT hU i (by omega)
    obtain ⟨x, hx⟩ : ∃ x, L[i]? = some x := ⟨_, List.getElem?_eq_getElem (by omega)⟩
    rw [accV_s hx]
    unfold stepV
    cases hg : x.g with
    | true =>
      rw [cond_true]
      cases ha : accV L i with
      | none =>
        rw [ha] at ih
        intro j y hj hy
        rcases Nat.lt_or_ge j i with h | h
        · exact ih j y h hy
        · have : j = i := by omega
          subst this
          rw [hx] at hy; cases hy; exact hg
      | some a =>
        rw [ha] at ih
        refine ⟨ih.1, ih.2.1, ih.2.2.1, fun j y hj hy hgy => ?_⟩
        rcases Nat.lt_or_ge j i with h | h
        · exact ih.2.2.2 j y h hy hgy
        · have : j = i := by omega
          subst this
          rw [hx] at hy; cases hy; rw [hg] at hgy; cases hgy
    | false =>
      rw [cond_false]
      obtain ⟨v, hv, hxv, hk, hle⟩ := hU x (List.mem_of_getElem? hx) hg
      rw [vaOf_of hv hxv]
      cases ha : accV L i with
      | none =>
        rw [ha] at ih
        refine ⟨hv, hk, hle, fun j y hj hy hgy => ?_⟩
        rcases Nat.lt_or_ge j i with h | h
        · have := ih j y h hy; rw [hgy] at this; cases this
        · have : j = i := by omega
          subst this
          rw [hx] at hy; cases hy; rw [vaOf_of hv hxv]; exact Va.jn_idem hv
      | some a =>
        rw [ha] at ih
        obtain ⟨h1, h2, h3, h4⟩ := ih
        have hkk : a.kind = v.kind := h2.trans hk.symm
        have hok := jn_ok_of h1 hv hT hkk hk h3 hle
        refine ⟨hok, (Va.jn_kind hkk).trans h2, by rw [Va.jn_assoc h1 hv hT hkk hk, hle, h3], fun j y hj hy hgy => ?_⟩
        rcases Nat.lt_or_ge j i with h | h
        · have h5 := h4 j y h hy hgy
          obtain ⟨w, hw, hyw, hkw, _⟩ := hU y (List.mem_of_getElem? hy) hgy
          rw [vaOf_of hw hyw] at h5 ⊢
          rw [← Va.jn_assoc hw h1 hv (hkw.trans h2.symm) hkk, h5]
        · have : j = i := by omega
          subst this
          rw [hx] at hy; cases hy; rw [vaOf_of hv hxv]
          rw [Va.jn_comm h1 hv hkk, ← Va.jn_assoc hv hv h1 rfl hkk.symm, Va.jn_idem hv]
theorem climb_of {T : Va} (hT : T.ok) {L : List Sb} (hU : Under T L) {n : Nat} (hn : n ≤ L.length) : Climb (accV L) L n where
  zero := rfl
  gone := fun i x _ hx hg => by rw [accV_s hx]; unfold stepV; rw [hg]; rfl
  first := fun i x hi hx hg ha => by
    obtain ⟨v, hv, hxv, _, _⟩ := hU x (List.mem_of_getElem? hx) hg
    refine ⟨v, hv, hxv, ?_⟩
    rw [accV_s hx, ha]; unfold stepV; rw [hg, vaOf_of hv hxv]; rfl
  next := fun i x a hi hx hg ha => by
    obtain ⟨v, hv, hxv, hk, _⟩ := hU x (List.mem_of_getElem? hx) hg
    have ih := inv_all hT hU i (by omega)
    rw [ha] at ih
    refine ⟨v, hv, hxv, ih.2.1.trans hk.symm, ?_⟩
    rw [accV_s hx, ha]; unfold stepV; rw [hg, vaOf_of hv hxv]; rfl
  ok := fun i a hi ha => by
    have ih := inv_all hT hU i (by omega)
    rw [ha] at ih
    exact ih.1
/-- T is the least value above the first i of vs. -/
structure Lub (vs : List Va) (i : Nat) (T : Va) : Prop where
  ok : T.ok
  kind : ∀ (j : Nat) (v : Va), vs[j]? = some v → v.kind = T.kind
  ub : ∀ (j : Nat) (v : Va), j < i → vs[j]? = some v → v.jn T = T
  least : ∀ U : Va, U.ok → U.kind = T.kind → (∀ (j : Nat) (v : Va), j < i → vs[j]? = some v → v.jn U = U) → T.jn U = U
theorem Lub.one {vs : List Va} {v : Va} (h : vs[0]? = some v) (hv : v.ok) (hk : ∀ (j : Nat) (w : Va), vs[j]? = some w → w.kind = v.kind) : Lub vs 1 v where
  ok := hv
  kind := hk
  ub := fun j w hj hw => by
    obtain rfl : j = 0 := by omega
    rw [h] at hw; cases hw; exact Va.jn_idem hv
  least := fun U _ _ h' => h' 0 v (by omega) h
theorem Lub.next {vs : List Va} {i : Nat} {T v : Va} (h : Lub vs i T) (hvs : ∀ (j : Nat) (w : Va), vs[j]? = some w → w.ok) (hx : vs[i]? = some v) (hok : (T.jn v).ok) : Lub vs (i + 1) (T.jn v) := by
  have hv := hvs i v hx
  have hk : T.kind = v.kind := (h.kind i v hx).symm
  refine ⟨hok, fun j w hw => (h.kind j w hw).trans (Va.jn_kind hk).symm, fun j w hj hw => ?_, fun U hU hkU hall => ?_⟩
  · rcases Nat.lt_or_ge j i with hlt | hge
    · rw [← Va.jn_assoc (hvs j w hw) h.ok hv (h.kind j w hw) hk, h.ub j w hlt hw]
    · obtain rfl : j = i := by omega
      rw [hx] at hw; cases hw
      rw [Va.jn_comm h.ok hv hk, ← Va.jn_assoc hv hv h.ok rfl hk.symm, Va.jn_idem hv]
  · have hkU' : U.kind = T.kind := hkU.trans (Va.jn_kind hk)
    rw [Va.jn_assoc h.ok hv hU hk (hk.symm.trans hkU'.symm), hall i v (by omega) hx]
    exact h.least U hU hkU' (fun j w hj hw => hall j w (by omega) hw)
/-- Whatever the order: the row comes to T. -/
theorem acc_is {vs : List Va} {T : Va} (h : Lub vs vs.length T) (hvs : ∀ (j : Nat) (w : Va), vs[j]? = some w → w.ok) {L : List Sb} (hU : Under T L) (hall : ∀ (j : Nat) (v : Va), vs[j]? = some v → ∃ x ∈ L, x.g = false ∧ x.v = v.bytes) (hne : vs ≠ []) : accV L L.length = some T := by
  have hi := inv_all h.ok hU L.length (Nat.le_refl _)
  obtain ⟨v0, hv0⟩ : ∃ v, vs[0]? = some v := ⟨_, List.getElem?_eq_getElem (by cases vs with | nil => exact absurd rfl hne | cons a l => simp)⟩
  obtain ⟨x0, hx0, hg0, _⟩ := hall 0 v0 hv0
  obtain ⟨j0, hj0⟩ := List.mem_iff_getElem?.1 hx0
  cases ha : accV L L.length with
  | none =>
    rw [ha] at hi
    have := hi j0 x0 (List.getElem?_eq_some_iff.1 hj0).1 hj0
    rw [hg0] at this; cases this
  | some a =>
    rw [ha] at hi
    obtain ⟨h1, h2, h3, h4⟩ := hi
    have h5 : T.jn a = a := h.least a h1 h2 (fun j v _ hv => by
      obtain ⟨x, hx, hg, hxv⟩ := hall j v hv
      obtain ⟨q, hq⟩ := List.mem_iff_getElem?.1 hx
      have := h4 q x (List.getElem?_eq_some_iff.1 hq).1 hq hg
      rw [vaOf_of (hvs j v hv) hxv] at this
      exact this)
    rw [Va.jn_comm h.ok h1 h2.symm, h3] at h5
    rw [h5]
end Go.Proofs.YtimddbgnaeeggaaDoor.KD
namespace Go.Proofs.YtimddbgnaeeggaaDoor.KD
open Go.Eng
set_option maxRecDepth 100000
/-! ### The states that KindsAnyDots makes. -/
/-- The siblings that stand after i rounds: l from k on, round about. -/
def sibs (l : List (List UInt8)) (k : Nat) : Nat → List Sb
  | 0 => []
  | i + 1 => sibs l k i ++ (⟨⟨3, 2 * i + 1⟩, false, l.getD ((i + k) % l.length) []⟩ :: (if i % 3 = 0 then [⟨⟨3, 2 * i + 2⟩, true, []⟩] else []))
@[reducible] def seen3 : List Dt := [⟨3, 40⟩]
theorem seen_ok : vvalid seen3 = true := by unfold vvalid; decide
theorem nil_ok : vvalid [] = true := by unfold vvalid; decide
theorem cv_ok {c : Int} (h : 0 < c) (h' : c ≤ 40) : cvD seen3 ⟨3, c⟩ = true := by
  unfold cvD
  rw [cntD_yes (i := 0) (x := ⟨3, 40⟩) seen_ok rfl rfl, decide_eq_true h, decide_eq_true h']; rfl
theorem cv_nil (x : Dt) (h : 0 < x.c) : cvD [] x = false := by
  unfold cvD
  rw [cntD_no (fun j y hy => by simp at hy), decide_eq_false (by omega : ¬ x.c ≤ 0), Bool.and_false]
/-- What each sibling is. -/
def Fine (x : Sb) : Prop := x.d.a = 3 ∧ 0 < x.d.c ∧ x.d.c ≤ 40 ∧ x.v.length ≤ 40 ∧ (x.g = true → x.v = [])
theorem ord_lt {x y : Dt} (h : x.a = y.a) (h' : x.c < y.c) : ordD x y < 0 := by
  unfold ordD
  rw [cmpI_eq.2 h, if_pos rfl]
  exact cmpI_lt.2 h'
theorem valid_of {L : List Sb} (hl : L.length ≤ 64) (hF : ∀ x ∈ L, Fine x) (hP : L.Pairwise (fun x y => x.d.c < y.d.c)) : validD seen3 L = true := by
  refine validD_yes seen_ok hl (fun j hj => ?_)
  obtain ⟨x, hx⟩ : ∃ x, L[j]? = some x := ⟨_, List.getElem?_eq_getElem hj⟩
  obtain ⟨h1, h2, h3, h4, h5⟩ := hF x (List.mem_of_getElem? hx)
  have hc : cvD seen3 x.d = true := by
    obtain ⟨⟨a, c⟩, g, v⟩ := x
    simp only at h1
    subst h1
    exact cv_ok h2 h3
  unfold okS
  rw [hx]
  simp only
  have hg : (x.g && decide (x.v ≠ [])) = false := by
    cases e : x.g with
    | false => rfl
    | true => rw [h5 e]; rfl
  rw [hc, decide_eq_true h4, hg]
  by_cases h0 : j = 0
  · rw [decide_eq_true h0]; rfl
  · obtain ⟨y, hy⟩ : ∃ y, L[j - 1]? = some y := ⟨_, List.getElem?_eq_getElem (by omega)⟩
    rw [hy]
    simp only
    have hyF := hF y (List.mem_of_getElem? hy)
    obtain ⟨a1, e1⟩ := List.getElem?_eq_some_iff.1 hy
    obtain ⟨a2, e2⟩ := List.getElem?_eq_some_iff.1 hx
    have hlt := List.pairwise_iff_getElem.1 hP (j - 1) j a1 a2 (by omega)
    rw [e1, e2] at hlt
    rw [decide_eq_true (ord_lt (hyF.1.trans h1.symm) hlt)]
    simp
theorem valid_nil {L : List Sb} (hne : L ≠ []) (hF : ∀ x ∈ L, Fine x) : validD [] L = false := by
  cases L with
  | nil => exact absurd rfl hne
  | cons x l =>
    refine validD_no2 (i := 0) (by simp) ?_
    have h := hF x (by simp)
    unfold okS
    simp only [List.getElem?_cons_zero]
    rw [cv_nil x.d h.2.1]
    simp
theorem sibs_mem {l : List (List UInt8)} {k : Nat} : ∀ (i : Nat) (x : Sb), x ∈ sibs l k i → x.d.a = 3 ∧ 0 < x.d.c ∧ x.d.c ≤ 2 * i ∧ ((x.g = true ∧ x.v = []) ∨ (x.g = false ∧ ∃ j, j < i ∧ x.v = l.getD ((j + k) % l.length) []))
  | 0, x, h => by simp [sibs] at h
  | i + 1, x, h => by
    unfold sibs at h
    rcases List.mem_append.1 h with h | h
    · obtain ⟨h1, h2, h3, h4⟩ := sibs_mem i x h
      refine ⟨h1, h2, by omega, h4.imp id (fun ⟨a, j, hj, e⟩ => ⟨a, j, by omega, e⟩)⟩
    · rcases List.mem_cons.1 h with rfl | h
      · exact ⟨rfl, by show (0 : Int) < 2 * i + 1; omega, by show (2 * i + 1 : Int) ≤ _; omega, .inr ⟨rfl, i, by omega, rfl⟩⟩
      · by_cases h3 : i % 3 = 0
        · rw [if_pos h3, List.mem_singleton] at h
          subst h
          exact ⟨rfl, by show (0 : Int) < 2 * i + 2; omega, by show (2 * i + 2 : Int) ≤ _; omega, .inl ⟨rfl, rfl⟩⟩
        · rw [if_neg h3] at h; simp at h
theorem sibs_rise {l : List (List UInt8)} {k : Nat} : ∀ i : Nat, (sibs l k i).Pairwise (fun x y => x.d.c < y.d.c)
  | 0 => by unfold sibs; exact List.Pairwise.nil
  | i + 1 => by
    unfold sibs
    refine List.pairwise_append.2 ⟨sibs_rise i, ?_, fun x hx y hy => ?_⟩
    · refine List.pairwise_cons.2 ⟨fun y hy => ?_, ?_⟩
      · by_cases h3 : i % 3 = 0
        · rw [if_pos h3, List.mem_singleton] at hy
          subst hy
          show (2 * i + 1 : Int) < 2 * i + 2; omega
        · rw [if_neg h3] at hy; simp at hy
      · by_cases h3 : i % 3 = 0
        · rw [if_pos h3]; exact List.pairwise_singleton _ _
        · rw [if_neg h3]; exact List.Pairwise.nil
    · obtain ⟨_, _, h, _⟩ := sibs_mem i x hx
      rcases List.mem_cons.1 hy with rfl | hy
      · show x.d.c < 2 * i + 1; omega
      · by_cases h3 : i % 3 = 0
        · rw [if_pos h3, List.mem_singleton] at hy
          subst hy
          show x.d.c < 2 * i + 2; omega
        · rw [if_neg h3] at hy; simp at hy
theorem sibs_len {l : List (List UInt8)} {k : Nat} : ∀ i : Nat, (sibs l k i).length ≤ 2 * i
  | 0 => by unfold sibs; simp
  | i + 1 => by
    have := sibs_len (l := l) (k := k) i
    unfold sibs
    rw [List.length_append, List.length_cons]
    by_cases h3 : i % 3 = 0
    · rw [if_pos h3]; simp; omega
    · rw [if_neg h3]; simp; omega
theorem sibs_has {l : List (List UInt8)} {k : Nat} : ∀ (i j : Nat), j < i → ∃ x ∈ sibs l k i, x.g = false ∧ x.v = l.getD ((j + k) % l.length) []
  | 0, j, h => absurd h (Nat.not_lt_zero j)
  | i + 1, j, h => by
    unfold sibs
    rcases Nat.lt_or_ge j i with h' | h'
    · obtain ⟨x, hx, e⟩ := sibs_has (l := l) (k := k) i j h'
      exact ⟨x, List.mem_append.2 (.inl hx), e⟩
    · obtain rfl : j = i := by omega
      exact ⟨_, List.mem_append.2 (.inr (List.mem_cons_self ..)), rfl, rfl⟩
@[reducible] def quest : Sb := ⟨⟨3, 39⟩, false, [63]⟩
theorem kd_quest : kd [63] = 0 := by
  refine kd_no (fun ⟨v, _, e⟩ => ?_)
  obtain ⟨T, hT⟩ := v.bytes_cons
  rw [hT] at e
  have h1 := (List.cons.inj e).1
  have h2 : v.kind.toNat = 63 := by rw [← h1]; rfl
  cases v <;> cases h2
/-- The three answers of Resolve. -/
theorem three {l : List (List UInt8)} {vs : List Va} {T : Va} {k : Nat} (hlen : vs.length = l.length) (hl : ∀ (j : Nat) (v : Va), vs[j]? = some v → l[j]? = some v.bytes) (hvs : ∀ (j : Nat) (v : Va), vs[j]? = some v → v.ok) (h : Lub vs vs.length T) (h1 : 1 ≤ l.length) (h12 : l.length ≤ 12) :
    Res seen3 (sibs l k l.length) T.bytes 0 ∧ Res seen3 (sibs l k l.length ++ [quest]) [] 120 ∧ Res [] (sibs l k l.length ++ [quest]) [] 110 := by
  have hv1 : ∀ j, j < l.length → ∃ v, vs[j]? = some v ∧ l.getD j [] = v.bytes := fun j hj => by
    obtain ⟨v, hv⟩ : ∃ v, vs[j]? = some v := ⟨_, List.getElem?_eq_getElem (by omega)⟩
    exact ⟨v, hv, by rw [List.getD_eq_getElem?_getD, hl j v hv]; rfl⟩
  have hU : Under T (sibs l k l.length) := fun x hx hg => by
    obtain ⟨_, _, _, h4⟩ := sibs_mem _ x hx
    rcases h4 with ⟨h4, _⟩ | ⟨_, j, hj, e⟩
    · rw [hg] at h4; cases h4
    · obtain ⟨v, hv, hb⟩ := hv1 ((j + k) % l.length) (Nat.mod_lt _ (by omega))
      exact ⟨v, hvs _ v hv, e.trans hb, h.kind _ v hv, h.ub _ v (List.getElem?_eq_some_iff.1 hv).1 hv⟩
  have hF : ∀ x ∈ sibs l k l.length, Fine x := fun x hx => by
    obtain ⟨a1, a2, a3, h4⟩ := sibs_mem _ x hx
    refine ⟨a1, a2, by omega, ?_, fun hg => ?_⟩
    · rcases h4 with ⟨_, h4⟩ | ⟨hg, _⟩
      · rw [h4]; decide
      · obtain ⟨v, hv, e, _⟩ := hU x hx hg
        rw [e]; exact Va.len hv
    · rcases h4 with ⟨_, h4⟩ | ⟨h4, _⟩
      · exact h4
      · rw [hg] at h4; cases h4
  have hlen2 := sibs_len (l := l) (k := k) l.length
  have hV1 := valid_of (by omega) hF (sibs_rise _)
  have hF2 : ∀ x ∈ sibs l k l.length ++ [quest], Fine x := fun x hx => by
    rcases List.mem_append.1 hx with hx | hx
    · exact hF x hx
    · rw [List.mem_singleton] at hx
      subst hx
      exact ⟨rfl, by decide, by decide, by decide, fun h => by cases h⟩
  have hV2 : validD seen3 (sibs l k l.length ++ [quest]) = true := by
    refine valid_of (by rw [List.length_append]; simp; omega) hF2 (List.pairwise_append.2 ⟨sibs_rise _, List.pairwise_singleton _ _, fun x hx y hy => ?_⟩)
    rw [List.mem_singleton] at hy
    subst hy
    obtain ⟨_, _, a3, _⟩ := sibs_mem _ x hx
    show x.d.c < 39
    omega
  refine ⟨?_, ?_, .inval (valid_nil (by simp) hF2)⟩
  · have hall : ∀ (j : Nat) (v : Va), vs[j]? = some v → ∃ x ∈ sibs l k l.length, x.g = false ∧ x.v = v.bytes := fun j v hv => by
      have hj : j < l.length := by have := (List.getElem?_eq_some_iff.1 hv).1; omega
      obtain ⟨x, hx, hg, e⟩ := sibs_has (l := l) (k := k) l.length ((j + (l.length - k % l.length)) % l.length) (Nat.mod_lt _ (by omega))
      refine ⟨x, hx, hg, e.trans ?_⟩
      have h5 : ((j + (l.length - k % l.length)) % l.length + k) % l.length = j := by
        have hk := Nat.mod_lt k (by omega : l.length > 0)
        have hk2 := Nat.div_add_mod k l.length
        rw [Nat.mod_add_mod]
        have e6 : j + (l.length - k % l.length) + k = j + l.length * (1 + k / l.length) := by rw [Nat.mul_add, Nat.mul_one]; omega
        rw [e6, Nat.add_mul_mod_self_left, Nat.mod_eq_of_lt hj]
      rw [h5, List.getD_eq_getElem?_getD, hl j v hv]; rfl
    have hacc := acc_is h hvs hU hall (by intro e; rw [e] at hlen; simp at hlen; omega)
    have := Res.val (D := seen3) (accV (sibs l k l.length)) hV1 (climb_of h.ok hU (Nat.le_refl _))
    rw [hacc] at this
    exact this
  · have hU2 := climb_of h.ok hU (Nat.le_refl _)
    refine .bad (fun i => accV (sibs l k l.length) i) (sibs l k l.length).length quest hV2 ?_ (by rw [List.getElem?_append_right (Nat.le_refl _), Nat.sub_self]; rfl) rfl kd_quest
    have e7 : ∀ (i : Nat) (x : Sb), i < (sibs l k l.length).length → (sibs l k l.length ++ [quest])[i]? = some x → (sibs l k l.length)[i]? = some x := fun i x hi hx => by rw [List.getElem?_append_left hi] at hx; exact hx
    exact ⟨hU2.zero, fun i x hi hx => hU2.gone i x hi (e7 i x hi hx), fun i x hi hx => hU2.first i x hi (e7 i x hi hx), fun i x a hi hx => hU2.next i x a hi (e7 i x hi hx), hU2.ok⟩
end Go.Proofs.YtimddbgnaeeggaaDoor.KD
namespace Go.Proofs.YtimddbgnaeeggaaDoor.KD
open Go.Eng
set_option maxRecDepth 100000
/-! ### Rows that are appended to. -/
theorem Pl.take {l : List A} (h : Pl l) (n : Nat) : Pl (l.take n) :=
  ⟨fun δ => by rw [List.map_take, h.1 δ], fun k => List.all_eq_true.2 fun x hx => List.all_eq_true.1 (h.2 k) x (List.mem_of_mem_take hx)⟩
theorem Pl.drop {l : List A} (h : Pl l) (n : Nat) : Pl (l.drop n) :=
  ⟨fun δ => by rw [List.map_drop, h.1 δ], fun k => List.all_eq_true.2 fun x hx => List.all_eq_true.1 (h.2 k) x (List.mem_of_mem_drop hx)⟩
theorem Pl.join {l m : List A} (h : Pl l) (h' : Pl m) : Pl (l ++ m) := ⟨fun δ => by rw [List.map_append, h.1, h'.1], fun n => by rw [List.all_append, h.2, h'.2]; rfl⟩
theorem Rw.nil {α : Type} {w : Nat} {row : α → List A} {cs : List A} (h : Pl cs) : Rw w row [] cs := ⟨h, by simp, fun i x hx => by simp at hx⟩
theorem Rw.snoc {α : Type} {w : Nat} {row : α → List A} {D : List α} {cs : List A} (h : Rw w row D cs) {x : α} (hx : Pl (row x)) (hl : (row x).length = w) {rest : List A} (hr : Pl rest) : Rw w row (D ++ [x]) (cs.take (D.length * w) ++ row x ++ rest) := by
  have h1 : (cs.take (D.length * w)).length = D.length * w := by rw [List.length_take]; have := h.len; omega
  refine ⟨((h.pl.take _).join hx).join hr, ?_, fun i y hy => ?_⟩
  · rw [List.length_append, List.length_append, List.length_append, h1, hl, List.length_singleton, Nat.add_mul, Nat.one_mul]; omega
  · rcases Nat.lt_or_ge i D.length with hi | hi
    · rw [List.getElem?_append_left hi] at hy
      have h2 : i * w + w ≤ D.length * w := by
        have := Nat.mul_le_mul_right w (Nat.succ_le_of_lt hi)
        rw [Nat.succ_mul] at this; exact this
      rw [List.append_assoc, List.take_append_of_le_length (by rw [h1]; exact h2), List.take_take, Nat.min_eq_left h2]
      exact h.at_ i y hy
    · obtain ⟨hlt, _⟩ := List.getElem?_eq_some_iff.1 hy
      rw [List.length_append, List.length_singleton] at hlt
      obtain rfl : i = D.length := by omega
      rw [List.getElem?_append_right (Nat.le_refl _), Nat.sub_self] at hy
      have hy' : x = y := Option.some.inj hy
      subst hy'
      rw [List.take_left' (by rw [List.length_append, h1, hl]), List.drop_left' h1]
theorem Rw.put {α : Type} {w : Nat} {row : α → List A} {D : List α} {cs : List A} (h : Rw w row D cs) {x : α} (hx : Pl (row x)) (hl : (row x).length = w) {xr : List A} (hxr : xr = row x) {o : Nat} (ho : o = D.length * w) (hc : D.length * w + w ≤ cs.length) : Rw w row (D ++ [x]) (storeL cs o xr) := by
  subst hxr ho
  rw [storeL_row _ _ _ (by rw [hl]; exact hc)]
  exact h.snoc hx hl (h.pl.drop _)
theorem Rw.new {α : Type} {w : Nat} {row : α → List A} {D : List α} {cs : List A} (h : Rw w row D cs) {x : α} (hx : Pl (row x)) (hl : (row x).length = w) {xr : List A} (hxr : xr = row x) {o : Nat} (ho : o = D.length * w) {rest : List A} (hr : Pl rest) : Rw w row (D ++ [x]) (List.drop 0 (List.take (0 + o) cs) ++ xr ++ rest) := by
  subst hxr ho
  rw [List.drop_zero, Nat.zero_add]
  exact h.snoc hx hl hr
@[reducible] def St.row (x : List UInt8) : List A := [.str (bs x)]
theorem sStr : Tryd.prog.types[9].size = 1 := rfl
theorem bStr : Tryd.prog.types[9].bytes = 16 := rfl
theorem bSib : Tryd.prog.types[78].bytes = 40 := rfl
@[reducible] def zSb : List A := [.int .u32 0, .int .u64 0, .bool false, .str { data := #[] }]
theorem repl_pl4 (n : Nat) : Pl (repl zSb n) := by
  have hm : ∀ i, zSb.getD (i % 4) .nilp ∈ zSb := fun i => by
    have hi : i % 4 < zSb.length := Nat.mod_lt _ (by decide)
    rw [List.getD_eq_getElem?_getD, List.getElem?_eq_getElem hi]
    exact List.getElem_mem hi
  have e : repl zSb n = (List.range n).map fun i => zSb.getD (i % 4) .nilp := rfl
  have h0 : ∀ x ∈ zSb, (∀ δ, A.ren δ x = x) ∧ ∀ k, A.okb k x = true := fun x hx => by
    simp only [zSb, List.mem_cons, List.not_mem_nil, or_false] at hx
    rcases hx with rfl | rfl | rfl | rfl <;> exact ⟨fun _ => rfl, fun _ => rfl⟩
  rw [e]
  refine ⟨fun δ => ?_, fun k => ?_⟩
  · rw [List.map_map]
    exact List.map_congr_left fun i _ => (h0 _ (hm i)).1 δ
  · rw [List.all_map, List.all_eq_true]
    exact fun i _ => (h0 _ (hm i)).2 k
theorem repl_len4 (n : Nat) : (repl zSb n).length = n := by
  show ((List.range n).map _).length = n
  rw [List.length_map, List.length_range]
theorem whole_sb {a b c d : A} : List.drop 0 (List.take (0 + 1 * Tryd.prog.types[78].size) [a, b, c, d]) = [a, b, c, d] := rfl
theorem rw_seen : Rw 2 Dt.row seen3 [.int .u32 3, .int .u64 40] := ⟨⟨fun _ => rfl, fun _ => rfl⟩, by decide, fun i x hx => by
  obtain ⟨h, _⟩ := List.getElem?_eq_some_iff.1 hx
  have : i = 0 := by simp at h; omega
  subst this
  cases hx
  rfl⟩
/-- Values of one kind. -/
def Homo (M : List (List UInt8)) : Prop := ∀ x ∈ M, kd x ≠ 0 ∧ kd x = kd (M.getD 0 [])
theorem Homo.snoc {M : List (List UInt8)} (h : Homo M) {x : List UInt8} (hx : kd x ≠ 0) (h' : M = [] ∨ kd x = kd (M.getD 0 [])) : Homo (M ++ [x]) := fun y hy => by
  cases M with
  | nil =>
    rw [List.nil_append, List.mem_singleton] at hy
    subst hy
    exact ⟨hx, rfl⟩
  | cons a l =>
    rcases h' with h' | h'
    · cases h'
    · rcases List.mem_append.1 hy with hy | hy
      · exact h y hy
      · rw [List.mem_singleton] at hy; subst hy; exact ⟨hx, h'⟩
theorem homo_vas {M : List (List UInt8)} (h : Homo M) : ∃ vs : List Va, vs.length = M.length ∧ (∀ (j : Nat) (v : Va), vs[j]? = some v → M[j]? = some v.bytes) ∧ (∀ (j : Nat) (v : Va), vs[j]? = some v → v.ok) ∧ (∀ (j : Nat) (v v0 : Va), vs[j]? = some v → vs[0]? = some v0 → v.kind = v0.kind) := by
  have hva : ∀ x ∈ M, (vaOf x).ok ∧ x = (vaOf x).bytes := fun x hx => by
    have h0 := (h x hx).1
    by_cases hV : IsVa x
    · obtain ⟨v, hv, e⟩ := hV
      rw [vaOf_of hv e]; exact ⟨hv, e⟩
    · exact absurd (kd_no hV) h0
  refine ⟨M.map vaOf, List.length_map _, fun j v hv => ?_, fun j v hv => ?_, fun j v v0 hv hv0 => ?_⟩
  · rw [List.getElem?_map, Option.map_eq_some_iff] at hv
    obtain ⟨x, hx, rfl⟩ := hv
    rw [hx, ← (hva x (List.mem_of_getElem? hx)).2]
  · rw [List.getElem?_map, Option.map_eq_some_iff] at hv
    obtain ⟨x, hx, rfl⟩ := hv
    exact (hva x (List.mem_of_getElem? hx)).1
  · rw [List.getElem?_map, Option.map_eq_some_iff] at hv hv0
    obtain ⟨x, hx, rfl⟩ := hv
    obtain ⟨x0, hx0, rfl⟩ := hv0
    have m1 := List.mem_of_getElem? hx
    have m0 := List.mem_of_getElem? hx0
    have e := (h x m1).2
    rw [List.getD_eq_getElem?_getD, hx0] at e
    rw [kd_va (hva x m1).1 (hva x m1).2] at e
    simp only [Option.getD_some] at e
    rw [kd_va (hva x0 m0).1 (hva x0 m0).2] at e
    exact UInt8.toNat_inj.1 e
section
variable {ro : Addr → A → Prop}
set_option maxHeartbeats 1000000 in
theorem anyNil (t : Int) {K : V → Hp → Prop} (hK : K (.a (.bool true)) []) : Go.Eng.Fn Tryd.prog ro 10 [.a .nils, .a (.int .i64 t)] [] K := by
  have g0 := True.intro
  have g1 := True.intro
  refine Fn.weak ?_
  refine Fn.of_code h10 Tryd.func10 rfl (Nat.le_of_ble_eq_true rfl) ?_
  conv => whnf
  repeat' ((first | ((with_reducible refine y'r ?_ ?_); (· decide +kernel)) | ((with_reducible refine y'g ?_ ?_); (· exact ⟨_, rfl⟩)) | (with_reducible first | refine y'b ‹_› ?_ | refine y'n ‹_› ?_ | refine y'1 ‹_› ?_ | refine y'2 ‹_› ?_ | refine y'3 ?_ | refine y'4 ?_) | ((with_reducible refine y'n ?_ ?_); (· first | with_reducible assumption | exact decide_eq_true (by omega) | decide +kernel)) | (with_reducible first | refine y'n (y'7 ‹_› ‹_›) ?_ | refine y'v (y'8 ‹_› ‹_›) (fun s hs => ?_) | refine y'5 ‹_› ?_ | refine y'6 ‹_› ?_) | (refine ⟨_, g0, ?_⟩) | ((with_reducible apply y'o); (· exact g1)) | ((with_reducible refine y'p ?_ ?_); (· rfl)) | ((with_reducible refine y'q ?_ ?_); (· rfl)) | fail) <;> (conv => whnf))
  refine loopx_iter 1 ?_
  conv => whnf
  repeat' ((first | ((with_reducible refine y'r ?_ ?_); (· decide +kernel)) | ((with_reducible refine y'g ?_ ?_); (· exact ⟨_, rfl⟩)) | (with_reducible first | refine y'b ‹_› ?_ | refine y'n ‹_› ?_ | refine y'1 ‹_› ?_ | refine y'2 ‹_› ?_ | refine y'3 ?_ | refine y'4 ?_) | ((with_reducible refine y'n ?_ ?_); (· first | with_reducible assumption | exact decide_eq_true (by omega) | decide +kernel)) | (with_reducible first | refine y'n (y'7 ‹_› ‹_›) ?_ | refine y'v (y'8 ‹_› ‹_›) (fun s hs => ?_) | refine y'5 ‹_› ?_ | refine y'6 ‹_› ?_) | (refine ⟨_, g0, ?_⟩) | ((with_reducible apply y'o); (· exact g1)) | ((with_reducible refine y'p ?_ ?_); (· rfl)) | ((with_reducible refine y'q ?_ ?_); (· rfl)) | fail) <;> (conv => whnf))
  refine Fn.frame [] (by rfl) (by exact trivial) (by rfl) (alive25 ?_)
  conv => whnf
  repeat' ((first | ((with_reducible refine y'r ?_ ?_); (· decide +kernel)) | ((with_reducible refine y'g ?_ ?_); (· exact ⟨_, rfl⟩)) | (with_reducible first | refine y'b ‹_› ?_ | refine y'n ‹_› ?_ | refine y'1 ‹_› ?_ | refine y'2 ‹_› ?_ | refine y'3 ?_ | refine y'4 ?_) | ((with_reducible refine y'n ?_ ?_); (· first | with_reducible assumption | exact decide_eq_true (by omega) | decide +kernel)) | (with_reducible first | refine y'n (y'7 ‹_› ‹_›) ?_ | refine y'v (y'8 ‹_› ‹_›) (fun s hs => ?_) | refine y'5 ‹_› ?_ | refine y'6 ‹_› ?_) | (refine ⟨_, g0, ?_⟩) | ((with_reducible apply y'o); (· exact g1)) | ((with_reducible refine y'p ?_ ?_); (· rfl)) | ((with_reducible refine y'q ?_ ?_); (· rfl)) | fail) <;> (conv => whnf))
  exact keepOf (v₀ := .a (.bool true)) [] [] rfl trivial rfl hK
set_option maxHeartbeats 8000000 in
theorem any10 (hT : Tabs ro) (Z : List (List UInt8)) (p : Addr) (n cap : Nat) (t : Int) (hn : n = Z.length) (hn9 : n ≤ 70368744177664) (hro : ∀ (i : Nat) (z : List UInt8), Z[i]? = some z → ro (p.add i) (.str (bs z))) {K : V → Hp → Prop} (hK : K (.a (.bool true)) []) :
    Go.Eng.Fn Tryd.prog ro 10 [.a (.rslc p n cap), .a (.int .i64 t)] [] K := by
  have g0 := True.intro
  have g1 := True.intro
  refine Fn.weak ?_
  refine Fn.of_code (cutAt [26, 32] h10) Tryd.func10 rfl (Nat.le_of_ble_eq_true rfl) ?_
  conv => whnf
  repeat' ((first | ((with_reducible refine y'r ?_ ?_); (· decide +kernel)) | ((with_reducible refine y'g ?_ ?_); (· exact ⟨_, rfl⟩)) | (with_reducible first | refine y'b ‹_› ?_ | refine y'n ‹_› ?_ | refine y'1 ‹_› ?_ | refine y'2 ‹_› ?_ | refine y'3 ?_ | refine y'4 ?_) | ((with_reducible refine y'n ?_ ?_); (· first | with_reducible assumption | exact decide_eq_true (by omega) | decide +kernel)) | (with_reducible first | refine y'n (y'7 ‹_› ‹_›) ?_ | refine y'v (y'8 ‹_› ‹_›) (fun s hs => ?_) | refine y'5 ‹_› ?_ | refine y'6 ‹_› ?_) | (refine ⟨_, g0, ?_⟩) | ((with_reducible apply y'o); (· exact g1)) | ((with_reducible refine y'p ?_ ?_); (· rfl)) | ((with_reducible refine y'q ?_ ?_); (· rfl)) | fail) <;> (conv => whnf))
  refine loopx_of (fun k F H => ∃ (i m c : Nat) (bk : Bool) (M : List (List UInt8)) (os : List A), i ≤ n ∧ k = n - i ∧ Rw 1 St.row M os ∧ m = M.length ∧ m ≤ 12 ∧ os.length = c ∧ Homo M ∧ F = [(0, .a (.rslc p n cap)), (1, .a (.int .i64 t)), (5, .a (.slc 0 0 m c)), (6, .a (.int .i64 i))] ∧ H = [.cells os 9 bk]) n ?_ ?_
  · refine Into.ghost 0 [(0, .a (.rslc p n cap)), (1, .a (.int .i64 t)), (5, .a (.slc 0 0 0 0)), (6, .a (.int .i64 (0 : Nat)))] [.cells [] 9 false] rfl ⟨rfl, rfl, rfl, rfl, trivial⟩ ⟨rfl, trivial⟩ (by simp [Ob.okb, frmOk, V.okb, A.okb] <;> decide) ?_
    exact Into.weak [0] _ [.cells [] 9 false] ⟨0, 0, 0, false, [], [], Nat.zero_le _, rfl, Rw.nil ⟨fun _ => rfl, fun _ => rfl⟩, rfl, by omega, rfl, fun x hx => by simp at hx, rfl, rfl⟩ ⟨rfl, rfl, rfl, rfl, trivial⟩ ⟨rfl, trivial⟩ (by simp [nodupb, baseb, Ob.okb, frmOk, V.okb, A.okb] <;> decide)
  · rintro k F H ⟨i, m, c, bk, M, os, hi, rfl, hM, hm, hm12, hol, hH, rfl, rfl⟩
    have hq := hM.pl
    have hmc : m ≤ c := by have := hM.len; omega
    have hwi : IntKind.i64.wrap (↑i + 1) = ((i + 1 : Nat) : Int) := by rw [i64w (by omega) (by omega)]; rfl
    by_cases hgo : i < n ∧ m < 12
    · obtain ⟨hin, hm11⟩ := hgo
      have d1 : decide ((i : Int) < (n : Int)) = true := decide_eq_true (by omega)
      have d2 : decide ((m : Int) < 12) = true := decide_eq_true (by omega)
      have d3 : decide (0 ≤ (i : Int) ∧ (i : Int) < (n : Int)) = true := decide_eq_true (by omega)
      obtain ⟨z, hz⟩ : ∃ z, Z[i]? = some z := ⟨_, List.getElem?_eq_getElem (by omega)⟩
      have hrz := hro i z hz
      have kk := @kindB ro z
      have kj := True.intro
      obtain ⟨kz, hkz⟩ : ∃ y : Int, y = ((kd z : Nat) : Int) := ⟨_, rfl⟩
      rw [← hkz] at kk
      obtain ⟨y, hy⟩ : ∃ y, y = bs z := ⟨_, rfl⟩
      rw [← hy] at kk hrz
      clear g0
      have g0 : ro (p.add ((i : Int).toNat * Tryd.prog.types[9].size)) (.str y) := by
        rw [Int.toNat_natCast, sStr, Nat.mul_one]; exact hrz
      by_cases h0 : kd z = 0
      · have c0 : (kz != 0) = false := by simp; omega
        conv => whnf
        repeat' ((first | ((with_reducible refine y'r ?_ ?_); (· decide +kernel)) | ((with_reducible refine y'g ?_ ?_); (· exact ⟨_, rfl⟩)) | (with_reducible first | refine y'b ‹_› ?_ | refine y'n ‹_› ?_ | refine y'1 ‹_› ?_ | refine y'2 ‹_› ?_ | refine y'3 ?_ | refine y'4 ?_) | ((with_reducible refine y'n ?_ ?_); (· first | with_reducible assumption | exact decide_eq_true (by omega) | decide +kernel)) | (with_reducible first | refine y'n (y'7 ‹_› ‹_›) ?_ | refine y'v (y'8 ‹_› ‹_›) (fun s hs => ?_) | refine y'5 ‹_› ?_ | refine y'6 ‹_› ?_) | (refine ⟨_, g0, ?_⟩) | ((with_reducible apply y'o); (· exact g1)) | ((with_reducible refine y'p ?_ ?_); (· rfl)) | ((with_reducible refine y'q ?_ ?_); (· rfl)) | (refine Fn.frame [] (by rfl) (by exact trivial) (by rfl) (kk ?_)) | (refine Fn.frame [] (by rfl) (by exact trivial) (by rfl) (kj ?_)) | fail) <;> (conv => whnf))
        exact ⟨n - (i + 1), by omega, Into.weak [0] [(0, .a (.rslc p n cap)), (1, .a (.int .i64 t)), (5, .a (.slc 0 0 m c)), (6, .a (.int .i64 ((i + 1 : Nat) : Int)))] [.cells os 9 bk] ⟨i + 1, m, c, bk, M, os, by omega, rfl, hM, hm, hm12, hol, hH, rfl, rfl⟩ ⟨rfl, rfl, rfl, congrArg (fun z => some (V.a (.int .i64 z))) hwi, trivial⟩ ⟨ren_pl hq _ _ _, trivial⟩ (by simp [nodupb, baseb, Ob.okb, frmOk, V.okb, A.okb, hq.2] <;> decide)⟩
      have c0 : (kz != 0) = true := by simp; omega
      by_cases hm0 : m = 0
      case' pos =>
        have c1 : ((m : Int) == 0) = true := by simp [hm0]
        have hX : M = [] ∨ kd z = kd (M.getD 0 []) := .inl (List.length_eq_zero_iff.1 (by omega))
      case' neg =>
        have c1 : ((m : Int) == 0) = false := by simp; omega
        obtain ⟨f, hf⟩ : ∃ f, M[0]? = some f := ⟨_, List.getElem?_eq_getElem (by omega)⟩
        have hfd : M.getD 0 [] = f := by rw [List.getD_eq_getElem?_getD, hf]; rfl
        clear kj g1
        have kj := @kindB ro f
        obtain ⟨kf, hkf⟩ : ∃ y : Int, y = ((kd f : Nat) : Int) := ⟨_, rfl⟩
        rw [← hkf] at kj
        have g1 : os[0 + Int.toNat 0 * Tryd.prog.types[9].size]? = some (.str (bs f)) := hM.cell (i := 0) (k := 0) hf (by omega) rfl
        have d4 : decide (0 ≤ (0 : Int) ∧ (0 : Int) < (m : Int)) = true := decide_eq_true (by omega)
        by_cases hkk : kd z = kd f
        case' neg =>
          have c2 : (kz == kf) = false := by simp; omega
          conv => whnf
          repeat' ((first | ((with_reducible refine y'r ?_ ?_); (· decide +kernel)) | ((with_reducible refine y'g ?_ ?_); (· exact ⟨_, rfl⟩)) | (with_reducible first | refine y'b ‹_› ?_ | refine y'n ‹_› ?_ | refine y'1 ‹_› ?_ | refine y'2 ‹_› ?_ | refine y'3 ?_ | refine y'4 ?_) | ((with_reducible refine y'n ?_ ?_); (· first | with_reducible assumption | exact decide_eq_true (by omega) | decide +kernel)) | (with_reducible first | refine y'n (y'7 ‹_› ‹_›) ?_ | refine y'v (y'8 ‹_› ‹_›) (fun s hs => ?_) | refine y'5 ‹_› ?_ | refine y'6 ‹_› ?_) | (refine ⟨_, g0, ?_⟩) | ((with_reducible apply y'o); (· exact g1)) | ((with_reducible refine y'p ?_ ?_); (· rfl)) | ((with_reducible refine y'q ?_ ?_); (· rfl)) | (refine Fn.frame [] (by rfl) (by exact trivial) (by rfl) (kk ?_)) | (refine Fn.frame [] (by rfl) (by exact trivial) (by rfl) (kj ?_)) | fail) <;> (conv => whnf))
          exact ⟨n - (i + 1), by omega, Into.weak [0] [(0, .a (.rslc p n cap)), (1, .a (.int .i64 t)), (5, .a (.slc 0 0 m c)), (6, .a (.int .i64 ((i + 1 : Nat) : Int)))] [.cells os 9 bk] ⟨i + 1, m, c, bk, M, os, by omega, rfl, hM, hm, hm12, hol, hH, rfl, rfl⟩ ⟨rfl, rfl, rfl, congrArg (fun z => some (V.a (.int .i64 z))) hwi, trivial⟩ ⟨ren_pl hq _ _ _, trivial⟩ (by simp [nodupb, baseb, Ob.okb, frmOk, V.okb, A.okb, hq.2] <;> decide)⟩
        case' pos =>
          have c2 : (kz == kf) = true := by simp; omega
          have hX : M = [] ∨ kd z = kd (M.getD 0 []) := .inr (by rw [hfd]; exact hkk)
      all_goals
        have hH2 := hH.snoc h0 hX
        conv => whnf
        repeat' ((first | ((with_reducible refine y'r ?_ ?_); (· decide +kernel)) | ((with_reducible refine y'g ?_ ?_); (· exact ⟨_, rfl⟩)) | (with_reducible first | refine y'b ‹_› ?_ | refine y'n ‹_› ?_ | refine y'1 ‹_› ?_ | refine y'2 ‹_› ?_ | refine y'3 ?_ | refine y'4 ?_) | ((with_reducible refine y'n ?_ ?_); (· first | with_reducible assumption | exact decide_eq_true (by omega) | decide +kernel)) | (with_reducible first | refine y'n (y'7 ‹_› ‹_›) ?_ | refine y'v (y'8 ‹_› ‹_›) (fun s hs => ?_) | refine y'5 ‹_› ?_ | refine y'6 ‹_› ?_) | (refine ⟨_, g0, ?_⟩) | ((with_reducible apply y'o); (· exact g1)) | ((with_reducible refine y'p ?_ ?_); (· rfl)) | ((with_reducible refine y'q ?_ ?_); (· rfl)) | (refine Fn.frame [] (by rfl) (by exact trivial) (by rfl) (kk ?_)) | (refine Fn.frame [] (by rfl) (by exact trivial) (by rfl) (kj ?_)) | fail) <;> (conv => whnf))
        have hsp : Pl (St.row z) := ⟨fun _ => rfl, fun _ => rfl⟩
        have hyr : ([.str y] : List A) = St.row z := by rw [hy]
        have hmz : m * Tryd.prog.types[9].size = M.length * 1 := by rw [hm, sStr]
        refine y'c (fun h => ?_) (fun h => ?_)
        · have h' := of_decide_eq_true h
          conv => whnf
          refine y'n (decide_eq_true (by simp [sStr]; omega)) ?_
          conv => whnf
          repeat' ((first | ((with_reducible refine y'r ?_ ?_); (· decide +kernel)) | ((with_reducible refine y'g ?_ ?_); (· exact ⟨_, rfl⟩)) | (with_reducible first | refine y'b ‹_› ?_ | refine y'n ‹_› ?_ | refine y'1 ‹_› ?_ | refine y'2 ‹_› ?_ | refine y'3 ?_ | refine y'4 ?_) | ((with_reducible refine y'n ?_ ?_); (· first | with_reducible assumption | exact decide_eq_true (by omega) | decide +kernel)) | (with_reducible first | refine y'n (y'7 ‹_› ‹_›) ?_ | refine y'v (y'8 ‹_› ‹_›) (fun s hs => ?_) | refine y'5 ‹_› ?_ | refine y'6 ‹_› ?_) | (refine ⟨_, g0, ?_⟩) | ((with_reducible apply y'o); (· exact g1)) | ((with_reducible refine y'p ?_ ?_); (· rfl)) | ((with_reducible refine y'q ?_ ?_); (· rfl)) | fail) <;> (conv => whnf))
          refine y'f rfl (fun xs hxs => ?_)
          have hxM : Rw 1 St.row (M ++ [z]) xs := by rw [hxs]; exact hM.put hsp rfl hyr (by rw [Nat.zero_add]; exact hmz) (by omega)
          have hxl : xs.length = c := by
            rw [hxs, storeL_row _ _ _ (by rw [Nat.zero_add, hmz]; simp; omega)]
            simp [hmz]; omega
          clear hxs
          have hxp := hxM.pl
          conv => whnf
          repeat' ((first | ((with_reducible refine y'r ?_ ?_); (· decide +kernel)) | ((with_reducible refine y'g ?_ ?_); (· exact ⟨_, rfl⟩)) | (with_reducible first | refine y'b ‹_› ?_ | refine y'n ‹_› ?_ | refine y'1 ‹_› ?_ | refine y'2 ‹_› ?_ | refine y'3 ?_ | refine y'4 ?_) | ((with_reducible refine y'n ?_ ?_); (· first | with_reducible assumption | exact decide_eq_true (by omega) | decide +kernel)) | (with_reducible first | refine y'n (y'7 ‹_› ‹_›) ?_ | refine y'v (y'8 ‹_› ‹_›) (fun s hs => ?_) | refine y'5 ‹_› ?_ | refine y'6 ‹_› ?_) | (refine ⟨_, g0, ?_⟩) | ((with_reducible apply y'o); (· exact g1)) | ((with_reducible refine y'p ?_ ?_); (· rfl)) | ((with_reducible refine y'q ?_ ?_); (· rfl)) | fail) <;> (conv => whnf))
          exact ⟨n - (i + 1), by omega, Into.weak [0] [(0, .a (.rslc p n cap)), (1, .a (.int .i64 t)), (5, .a (.slc 0 0 (m + 1) c)), (6, .a (.int .i64 ((i + 1 : Nat) : Int)))] [.cells xs 9 bk] ⟨i + 1, m + 1, c, bk, M ++ [z], xs, by omega, rfl, hxM, by rw [List.length_append, hm]; rfl, by omega, hxl, hH2, rfl, rfl⟩ ⟨rfl, rfl, rfl, congrArg (fun z => some (V.a (.int .i64 z))) hwi, trivial⟩ ⟨ren_pl hxp _ _ _, trivial⟩ (by simp [nodupb, baseb, Ob.okb, frmOk, V.okb, A.okb, hxp.2] <;> decide)⟩
        · have h' := of_decide_eq_false h
          conv => whnf
          refine y'n (decide_eq_true (by simp [sStr, bStr]; omega)) ?_
          intro cap' hcap'
          conv => whnf
          repeat' ((first | ((with_reducible refine y'r ?_ ?_); (· decide +kernel)) | ((with_reducible refine y'g ?_ ?_); (· exact ⟨_, rfl⟩)) | (with_reducible first | refine y'b ‹_› ?_ | refine y'n ‹_› ?_ | refine y'1 ‹_› ?_ | refine y'2 ‹_› ?_ | refine y'3 ?_ | refine y'4 ?_) | ((with_reducible refine y'n ?_ ?_); (· first | with_reducible assumption | exact decide_eq_true (by omega) | decide +kernel)) | (with_reducible first | refine y'n (y'7 ‹_› ‹_›) ?_ | refine y'v (y'8 ‹_› ‹_›) (fun s hs => ?_) | refine y'5 ‹_› ?_ | refine y'6 ‹_› ?_) | (refine ⟨_, g0, ?_⟩) | ((with_reducible apply y'o); (· exact g1)) | ((with_reducible refine y'p ?_ ?_); (· rfl)) | ((with_reducible refine y'q ?_ ?_); (· rfl)) | fail) <;> (conv => whnf))
          refine y'f rfl (fun xs hxs => ?_)
          have hmz2 : 0 + m * Tryd.prog.types[9].size = 0 + M.length * 1 := by rw [hmz]
          have hrp : ∀ k : Nat, Pl (repl [A.str { data := #[] }] k) := fun k => ⟨fun δ => by simp [repl, A.ren], fun q => by simp [repl, A.okb]⟩
          have hxM : Rw 1 St.row (M ++ [z]) xs := by rw [hxs]; exact hM.new hsp rfl hyr hmz (hrp _)
          have hxl : xs.length = cap' := by
            rw [hxs, hmz, List.length_append, List.length_append, List.length_drop, List.length_take]
            simp [repl, sStr]; omega
          clear hxs
          have hxp := hxM.pl
          conv => whnf
          repeat' ((first | ((with_reducible refine y'r ?_ ?_); (· decide +kernel)) | ((with_reducible refine y'g ?_ ?_); (· exact ⟨_, rfl⟩)) | (with_reducible first | refine y'b ‹_› ?_ | refine y'n ‹_› ?_ | refine y'1 ‹_› ?_ | refine y'2 ‹_› ?_ | refine y'3 ?_ | refine y'4 ?_) | ((with_reducible refine y'n ?_ ?_); (· first | with_reducible assumption | exact decide_eq_true (by omega) | decide +kernel)) | (with_reducible first | refine y'n (y'7 ‹_› ‹_›) ?_ | refine y'v (y'8 ‹_› ‹_›) (fun s hs => ?_) | refine y'5 ‹_› ?_ | refine y'6 ‹_› ?_) | (refine ⟨_, g0, ?_⟩) | ((with_reducible apply y'o); (· exact g1)) | ((with_reducible refine y'p ?_ ?_); (· rfl)) | ((with_reducible refine y'q ?_ ?_); (· rfl)) | fail) <;> (conv => whnf))
          exact ⟨n - (i + 1), by omega, Into.weak [2] [(0, .a (.rslc p n cap)), (1, .a (.int .i64 t)), (5, .a (.slc 0 0 (m + 1) cap')), (6, .a (.int .i64 ((i + 1 : Nat) : Int)))] [.cells xs 9 false] ⟨i + 1, m + 1, cap', false, M ++ [z], xs, by omega, rfl, hxM, by rw [List.length_append, hm]; rfl, by omega, hxl, hH2, rfl, rfl⟩ ⟨rfl, rfl, rfl, congrArg (fun z => some (V.a (.int .i64 z))) hwi, trivial⟩ ⟨ren_pl hxp _ _ _, trivial⟩ (by simp [nodupb, baseb, Ob.okb, frmOk, V.okb, A.okb, hxp.2] <;> decide)⟩
    · have hbb : (i < n ∧ ¬ m < 12) ∨ ¬ i < n := by
        rcases Nat.lt_or_ge i n with h | h
        · exact .inl ⟨h, fun h' => hgo ⟨h, h'⟩⟩
        · exact .inr (by omega)
      clear hwi
      rcases hbb with ⟨h1, h2⟩ | h1
      case' inl =>
        have d1 : decide ((i : Int) < (n : Int)) = true := decide_eq_true (by omega)
        have d2 : decide ((m : Int) < 12) = false := decide_eq_false (by omega)
      case' inr =>
        have d1 : decide ((i : Int) < (n : Int)) = false := decide_eq_false (by omega)
        have d2 := True.intro
      all_goals
        by_cases hm0 : m = 0
        · have c1 : ((m : Int) == 0) = true := by simp [hm0]
          conv => whnf
          repeat' ((first | ((with_reducible refine y'r ?_ ?_); (· decide +kernel)) | ((with_reducible refine y'g ?_ ?_); (· exact ⟨_, rfl⟩)) | (with_reducible first | refine y'b ‹_› ?_ | refine y'n ‹_› ?_ | refine y'1 ‹_› ?_ | refine y'2 ‹_› ?_ | refine y'3 ?_ | refine y'4 ?_) | ((with_reducible refine y'n ?_ ?_); (· first | with_reducible assumption | exact decide_eq_true (by omega) | decide +kernel)) | (with_reducible first | refine y'n (y'7 ‹_› ‹_›) ?_ | refine y'v (y'8 ‹_› ‹_›) (fun s hs => ?_) | refine y'5 ‹_› ?_ | refine y'6 ‹_› ?_) | (refine ⟨_, g0, ?_⟩) | ((with_reducible apply y'o); (· exact g1)) | ((with_reducible refine y'p ?_ ?_); (· rfl)) | ((with_reducible refine y'q ?_ ?_); (· rfl)) | fail) <;> (conv => whnf))
          refine Fn.frame [] (by rfl) (by exact trivial) (by rfl) (alive25 ?_)
          conv => whnf
          repeat' ((first | ((with_reducible refine y'r ?_ ?_); (· decide +kernel)) | ((with_reducible refine y'g ?_ ?_); (· exact ⟨_, rfl⟩)) | (with_reducible first | refine y'b ‹_› ?_ | refine y'n ‹_› ?_ | refine y'1 ‹_› ?_ | refine y'2 ‹_› ?_ | refine y'3 ?_ | refine y'4 ?_) | ((with_reducible refine y'n ?_ ?_); (· first | with_reducible assumption | exact decide_eq_true (by omega) | decide +kernel)) | (with_reducible first | refine y'n (y'7 ‹_› ‹_›) ?_ | refine y'v (y'8 ‹_› ‹_›) (fun s hs => ?_) | refine y'5 ‹_› ?_ | refine y'6 ‹_› ?_) | (refine ⟨_, g0, ?_⟩) | ((with_reducible apply y'o); (· exact g1)) | ((with_reducible refine y'p ?_ ?_); (· rfl)) | ((with_reducible refine y'q ?_ ?_); (· rfl)) | fail) <;> (conv => whnf))
          exact keepOf (v₀ := .a (.bool true)) [] [] rfl trivial rfl hK
        · have c1 : ((m : Int) == 0) = false := by simp; omega
          obtain ⟨vs, hvl, hvM, hvo, hvk⟩ := homo_vas hH
          obtain ⟨v0, hv0⟩ : ∃ v, vs[0]? = some v := ⟨_, List.getElem?_eq_getElem (by omega)⟩
          have g1 : os[0 + Int.toNat 0 * Tryd.prog.types[9].size]? = some (.str (bs v0.bytes)) := hM.cell (i := 0) (k := 0) (hvM 0 v0 hv0) (by omega) rfl
          have d4 : decide (0 ≤ (0 : Int) ∧ (0 : Int) < (m : Int)) = true := decide_eq_true (by omega)
          have hL1 := Lub.one hv0 (hvo 0 v0 hv0) (fun j w hw => hvk j w v0 hw hv0)
          obtain ⟨w0, hw0⟩ : ∃ w, w = bs v0.bytes := ⟨_, rfl⟩
          rw [← hw0] at g1
          conv => whnf
          repeat' ((first | ((with_reducible refine y'r ?_ ?_); (· decide +kernel)) | ((with_reducible refine y'g ?_ ?_); (· exact ⟨_, rfl⟩)) | (with_reducible first | refine y'b ‹_› ?_ | refine y'n ‹_› ?_ | refine y'1 ‹_› ?_ | refine y'2 ‹_› ?_ | refine y'3 ?_ | refine y'4 ?_) | ((with_reducible refine y'n ?_ ?_); (· first | with_reducible assumption | exact decide_eq_true (by omega) | decide +kernel)) | (with_reducible first | refine y'n (y'7 ‹_› ‹_›) ?_ | refine y'v (y'8 ‹_› ‹_›) (fun s hs => ?_) | refine y'5 ‹_› ?_ | refine y'6 ‹_› ?_) | (refine ⟨_, g0, ?_⟩) | ((with_reducible apply y'o); (· exact g1)) | ((with_reducible refine y'p ?_ ?_); (· rfl)) | ((with_reducible refine y'q ?_ ?_); (· rfl)) | fail) <;> (conv => whnf))
          refine loopx_of (fun k F H => ∃ (i : Nat) (T : Va) (w : ByteArray), 1 ≤ i ∧ i ≤ m ∧ k = m + 1 - i ∧ Lub vs i T ∧ w = bs T.bytes ∧ F = [(1, .a (.int .i64 t)), (5, .a (.slc 0 0 m c)), (8, .a (.str w)), (9, .a (.int .i64 i))] ∧ H = [.cells os 9 bk]) m ?_ ?_
          · exact Into.weak [0] [(1, .a (.int .i64 t)), (5, .a (.slc 0 0 m c)), (8, .a (.str w0)), (9, .a (.int .i64 (1 : Nat)))] [.cells os 9 bk] ⟨1, v0, w0, by omega, by omega, rfl, hL1, hw0, rfl, rfl⟩ ⟨rfl, rfl, rfl, rfl, trivial⟩ ⟨ren_pl hq _ _ _, trivial⟩ (by simp [nodupb, baseb, Ob.okb, frmOk, V.okb, A.okb, hq.2] <;> decide)
          · clear d1 d2 d4 c1 g1 hL1 hw0 h1 hgo hi
            rintro k F H ⟨i, T, w, hi1, him, rfl, hL, hw, rfl, rfl⟩
            have hwi : IntKind.i64.wrap (↑i + 1) = ((i + 1 : Nat) : Int) := by rw [i64w (by omega) (by omega)]; rfl
            by_cases hin : i < m
            · have d1 : decide ((i : Int) < (m : Int)) = true := decide_eq_true (by omega)
              have d2 : decide (0 ≤ (i : Int) ∧ (i : Int) < (m : Int)) = true := decide_eq_true (by omega)
              obtain ⟨v, hv⟩ : ∃ v, vs[i]? = some v := ⟨_, List.getElem?_eq_getElem (by omega)⟩
              have g1 : os[0 + (i : Int).toNat * Tryd.prog.types[9].size]? = some (.str (bs v.bytes)) := by
                rw [Int.toNat_natCast, sStr, Nat.zero_add]; exact hM.cell (i := i) (k := 0) (hvM i v hv) (by omega) rfl
              have kj := @joinB ro hT T.bytes v.bytes
              rw [jnB_va ⟨hL.ok, hvo i v hv, (hL.kind i v hv).symm, rfl, rfl⟩] at kj
              obtain ⟨y, hy⟩ : ∃ y, y = bs v.bytes := ⟨_, rfl⟩
              rw [← hy] at kj g1
              rw [← hw] at kj
              have kk := True.intro
              by_cases h40 : (T.jn v).bytes.length ≤ 40
              · rw [if_pos h40] at kj
                have hL2 := hL.next hvo hv (Va.jn_ok hL.ok (hvo i v hv) (hL.kind i v hv).symm h40)
                obtain ⟨w2, hw2⟩ : ∃ w, w = bs (T.jn v).bytes := ⟨_, rfl⟩
                rw [← hw2] at kj
                conv => whnf
                repeat' ((first | ((with_reducible refine y'r ?_ ?_); (· decide +kernel)) | ((with_reducible refine y'g ?_ ?_); (· exact ⟨_, rfl⟩)) | (with_reducible first | refine y'b ‹_› ?_ | refine y'n ‹_› ?_ | refine y'1 ‹_› ?_ | refine y'2 ‹_› ?_ | refine y'3 ?_ | refine y'4 ?_) | ((with_reducible refine y'n ?_ ?_); (· first | with_reducible assumption | exact decide_eq_true (by omega) | decide +kernel)) | (with_reducible first | refine y'n (y'7 ‹_› ‹_›) ?_ | refine y'v (y'8 ‹_› ‹_›) (fun s hs => ?_) | refine y'5 ‹_› ?_ | refine y'6 ‹_› ?_) | (refine ⟨_, g0, ?_⟩) | ((with_reducible apply y'o); (· exact g1)) | ((with_reducible refine y'p ?_ ?_); (· rfl)) | ((with_reducible refine y'q ?_ ?_); (· rfl)) | (refine Fn.frame [] (by rfl) (by exact trivial) (by rfl) (kk ?_)) | (refine Fn.frame [] (by rfl) (by exact trivial) (by rfl) (kj ?_)) | fail) <;> (conv => whnf))
                exact ⟨m + 1 - (i + 1), by omega, Into.weak [0] [(1, .a (.int .i64 t)), (5, .a (.slc 0 0 m c)), (8, .a (.str w2)), (9, .a (.int .i64 ((i + 1 : Nat) : Int)))] [.cells os 9 bk] ⟨i + 1, T.jn v, w2, by omega, by omega, rfl, hL2, hw2, rfl, rfl⟩ ⟨rfl, rfl, rfl, congrArg (fun z => some (V.a (.int .i64 z))) hwi, trivial⟩ ⟨ren_pl hq _ _ _, trivial⟩ (by simp [nodupb, baseb, Ob.okb, frmOk, V.okb, A.okb, hq.2] <;> decide)⟩
              · rw [if_neg h40] at kj
                conv => whnf
                repeat' ((first | ((with_reducible refine y'r ?_ ?_); (· decide +kernel)) | ((with_reducible refine y'g ?_ ?_); (· exact ⟨_, rfl⟩)) | (with_reducible first | refine y'b ‹_› ?_ | refine y'n ‹_› ?_ | refine y'1 ‹_› ?_ | refine y'2 ‹_› ?_ | refine y'3 ?_ | refine y'4 ?_) | ((with_reducible refine y'n ?_ ?_); (· first | with_reducible assumption | exact decide_eq_true (by omega) | decide +kernel)) | (with_reducible first | refine y'n (y'7 ‹_› ‹_›) ?_ | refine y'v (y'8 ‹_› ‹_›) (fun s hs => ?_) | refine y'5 ‹_› ?_ | refine y'6 ‹_› ?_) | (refine ⟨_, g0, ?_⟩) | ((with_reducible apply y'o); (· exact g1)) | ((with_reducible refine y'p ?_ ?_); (· rfl)) | ((with_reducible refine y'q ?_ ?_); (· rfl)) | (refine Fn.frame [] (by rfl) (by exact trivial) (by rfl) (kk ?_)) | (refine Fn.frame [] (by rfl) (by exact trivial) (by rfl) (kj ?_)) | fail) <;> (conv => whnf))
                exact keepOf (v₀ := .a (.bool true)) [] [] rfl trivial rfl hK
            · have d1 : decide ((i : Int) < (m : Int)) = false := decide_eq_false (by omega)
              obtain rfl : m = i := by omega
              obtain ⟨r, hr⟩ : ∃ r, r = t.tmod (m : Int) := ⟨_, rfl⟩
              have hr1 : -(m : Int) < r := by rw [hr]; exact Int.lt_tmod_of_pos _ (by omega)
              have hr2 : r < (m : Int) := by rw [hr]; exact Int.tmod_lt_of_pos _ (by omega)
              by_cases hr0 : r < 0
              case' pos =>
                have d5 : decide (r < 0) = true := decide_eq_true hr0
                obtain ⟨kr, hkr⟩ : ∃ kr : Nat, kr = (r + m).toNat := ⟨_, rfl⟩
                have hkv : IntKind.i64.wrap (r + (m : Int)) = ((kr : Nat) : Int) := by rw [i64w (by omega) (by omega)]; omega
              case' neg =>
                have d5 : decide (r < 0) = false := decide_eq_false hr0
                obtain ⟨kr, hkr⟩ : ∃ kr : Nat, kr = r.toNat := ⟨_, rfl⟩
                have hkv : r = ((kr : Nat) : Int) := by omega
              all_goals
                have hkm : kr < m := by omega
                have kk := True.intro
                have kj := True.intro
                conv => whnf
                repeat' ((first | rw [← hr] | ((with_reducible refine y'r ?_ ?_); (· decide +kernel)) | ((with_reducible refine y'g ?_ ?_); (· exact ⟨_, rfl⟩)) | (with_reducible first | refine y'b ‹_› ?_ | refine y'n ‹_› ?_ | refine y'1 ‹_› ?_ | refine y'2 ‹_› ?_ | refine y'3 ?_ | refine y'4 ?_) | ((with_reducible refine y'n ?_ ?_); (· first | with_reducible assumption | exact decide_eq_true (by omega) | decide +kernel)) | (with_reducible first | refine y'n (y'7 ‹_› ‹_›) ?_ | refine y'v (y'8 ‹_› ‹_›) (fun s hs => ?_) | refine y'5 ‹_› ?_ | refine y'6 ‹_› ?_) | (refine ⟨_, g0, ?_⟩) | ((with_reducible apply y'o); (· exact g1)) | ((with_reducible refine y'p ?_ ?_); (· rfl)) | ((with_reducible refine y'q ?_ ?_); (· rfl)) | fail) <;> (conv => whnf))
                clear d5 hr hr0 hr1 hr2
                refine loopx_of (fun k F H => ∃ (i q c2 : Nat) (b2 : Bool) (es : List A), i ≤ m ∧ k = m - i ∧ Rw 4 Sb.row (sibs M kr i) es ∧ q = (sibs M kr i).length ∧ es.length = c2 * 4 ∧ F = [(5, .a (.slc 0 0 m c)), (8, .a (.str w)), (12, .a (.int .i64 (kr : Int))), (13, .a (.ptr 2 0)), (14, .a (.int .i64 i))] ∧ H = [.cells os 9 bk, .cells [.int .u32 3, .int .u64 40] 76 false, .cells [.slc 1 0 1 1, .slc 3 0 q c2] 70 false, .cells es 78 b2]) m ?_ ?_
                · refine Into.ghost 3 [(5, .a (.slc 0 0 m c)), (8, .a (.str w)), (12, .a (.int .i64 (kr : Int))), (13, .a (.ptr 2 0)), (14, .a (.int .i64 (0 : Nat)))] [.cells os 9 bk, .cells [.int .u32 3, .int .u64 40] 76 false, .cells [.slc 1 0 1 1, .slc 3 0 0 0] 70 false, .cells [] 78 false] rfl ⟨rfl, rfl, congrArg (fun z => some (V.a (.int .i64 z))) hkv, rfl, rfl, trivial⟩ ⟨ung_pl hq.1 _ _ _, rfl, rfl, rfl, trivial⟩ (by simp [Ob.okb, frmOk, V.okb, A.okb, hq.2] <;> decide) ?_
                  exact Into.weak [0, 1, 2, 3] _ [.cells os 9 bk, .cells [.int .u32 3, .int .u64 40] 76 false, .cells [.slc 1 0 1 1, .slc 3 0 0 0] 70 false, .cells [] 78 false] ⟨0, 0, 0, false, [], Nat.zero_le _, rfl, Rw.nil ⟨fun _ => rfl, fun _ => rfl⟩, rfl, rfl, rfl, rfl⟩ ⟨rfl, rfl, rfl, rfl, rfl, trivial⟩ ⟨ren_pl hq _ _ _, rfl, rfl, rfl, trivial⟩ (by simp [nodupb, baseb, Ob.okb, frmOk, V.okb, A.okb, hq.2] <;> decide)
                · rintro k F H ⟨i, q, c2, b2, es, hi, rfl, hE, hq3, hel, rfl, rfl⟩
                  have hep := hE.pl
                  by_cases hin : i < m
                  · have d1 : decide ((i : Int) < (m : Int)) = true := decide_eq_true (by omega)
                    obtain ⟨z, hz⟩ : ∃ z, z = (IntKind.i64.wrap (↑i + ↑kr)).tmod (m : Int) := ⟨_, rfl⟩
                    obtain ⟨z2, hz2⟩ : ∃ z, z = IntKind.u64.wrap (IntKind.i64.wrap (IntKind.i64.wrap (2 * (i : Int)) + 1)) := ⟨_, rfl⟩
                    obtain ⟨z3, hz3⟩ : ∃ z, z = IntKind.u64.wrap (IntKind.i64.wrap (IntKind.i64.wrap (2 * (i : Int)) + 2)) := ⟨_, rfl⟩
                    have hzv : z = (((i + kr) % M.length : Nat) : Int) := by
                      rw [hz, i64w (by omega) (by omega), show (i : Int) + (kr : Int) = ((i + kr : Nat) : Int) by omega, hm]; rfl
                    have hz2v : z2 = 2 * (i : Int) + 1 := by
                      have e1 : IntKind.i64.wrap (IntKind.i64.wrap (2 * (i : Int)) + 1) = ((2 * i + 1 : Nat) : Int) := by rw [i64w (x := 2 * (i : Int)) (by omega) (by omega), i64w (by omega) (by omega)]; omega
                      rw [hz2, e1, u64w, Nat.mod_eq_of_lt (by omega)]; omega
                    have hz3v : z3 = 2 * (i : Int) + 2 := by
                      have e1 : IntKind.i64.wrap (IntKind.i64.wrap (2 * (i : Int)) + 2) = ((2 * i + 2 : Nat) : Int) := by rw [i64w (x := 2 * (i : Int)) (by omega) (by omega), i64w (by omega) (by omega)]; omega
                      rw [hz3, e1, u64w, Nat.mod_eq_of_lt (by omega)]; omega
                    have hjm : (i + kr) % M.length < m := by rw [hm]; exact Nat.mod_lt _ (by omega)
                    have d2 : decide (0 ≤ z ∧ z < (m : Int)) = true := decide_eq_true (by omega)
                    obtain ⟨v, hv⟩ : ∃ v, v = M.getD ((i + kr) % M.length) [] := ⟨_, rfl⟩
                    obtain ⟨y, hy⟩ : ∃ y, y = bs v := ⟨_, rfl⟩
                    have g1 : os[0 + z.toNat * Tryd.prog.types[9].size]? = some (.str y) := by
                      rw [hzv, Int.toNat_natCast, sStr, Nat.zero_add, hy]
                      exact hM.cell (i := (i + kr) % M.length) (k := 0) (x := v) (by rw [hv, List.getD_eq_getElem?_getD, List.getElem?_eq_getElem (by omega)]; rfl) (by omega) rfl
                    have hqc : q ≤ c2 := by have := hE.len; omega
                    have hsl := sibs_len (l := M) (k := kr) i
                    have hqb : q ≤ 24 := by omega
                    have hx1 : ([.int .u32 3, .int .u64 z2, .bool false, .str y] : List A) = Sb.row ⟨⟨3, 2 * i + 1⟩, false, M.getD ((i + kr) % M.length) []⟩ := by rw [hz2v, hy, hv]
                    have hxp1 : Pl (Sb.row ⟨⟨3, 2 * i + 1⟩, false, M.getD ((i + kr) % M.length) []⟩) := ⟨fun _ => rfl, fun _ => rfl⟩
                    have hqz : q * Tryd.prog.types[78].size = (sibs M kr i).length * 4 := by rw [hq3, sSib]
                    conv => whnf
                    repeat' ((first | rw [← hz] | rw [← hz2] | ((with_reducible refine y'r ?_ ?_); (· decide +kernel)) | ((with_reducible refine y'g ?_ ?_); (· exact ⟨_, rfl⟩)) | (with_reducible first | refine y'b ‹_› ?_ | refine y'n ‹_› ?_ | refine y'1 ‹_› ?_ | refine y'2 ‹_› ?_ | refine y'3 ?_ | refine y'4 ?_) | ((with_reducible refine y'n ?_ ?_); (· first | with_reducible assumption | exact decide_eq_true (by omega) | decide +kernel)) | (with_reducible first | refine y'n (y'7 ‹_› ‹_›) ?_ | refine y'v (y'8 ‹_› ‹_›) (fun s hs => ?_) | refine y'5 ‹_› ?_ | refine y'6 ‹_› ?_) | (refine ⟨_, g0, ?_⟩) | ((with_reducible apply y'o); (· exact g1)) | ((with_reducible refine y'p ?_ ?_); (· rfl)) | ((with_reducible refine y'q ?_ ?_); (· rfl)) | fail) <;> (conv => whnf))
                    refine y'c (fun h => ?_) (fun h => ?_)
                    case' refine_1 =>
                      have h' := of_decide_eq_true h
                      conv => whnf
                      refine y'n (decide_eq_true (by simp [sSib]; omega)) ?_
                      conv => whnf
                      repeat' ((first | ((with_reducible refine y'r ?_ ?_); (· decide +kernel)) | ((with_reducible refine y'g ?_ ?_); (· exact ⟨_, rfl⟩)) | (with_reducible first | refine y'b ‹_› ?_ | refine y'n ‹_› ?_ | refine y'1 ‹_› ?_ | refine y'2 ‹_› ?_ | refine y'3 ?_ | refine y'4 ?_) | ((with_reducible refine y'n ?_ ?_); (· first | with_reducible assumption | exact decide_eq_true (by omega) | decide +kernel)) | (with_reducible first | refine y'n (y'7 ‹_› ‹_›) ?_ | refine y'v (y'8 ‹_› ‹_›) (fun s hs => ?_) | refine y'5 ‹_› ?_ | refine y'6 ‹_› ?_) | (refine ⟨_, g0, ?_⟩) | ((with_reducible apply y'o); (· exact g1)) | ((with_reducible refine y'p ?_ ?_); (· rfl)) | ((with_reducible refine y'q ?_ ?_); (· rfl)) | fail) <;> (conv => whnf))
                      refine y'f rfl (fun xs hxs => ?_)
                      have hxM : Rw 4 Sb.row (sibs M kr i ++ [(⟨⟨3, 2 * i + 1⟩, false, M.getD ((i + kr) % M.length) []⟩ : Sb)]) xs := by rw [hxs]; exact hE.put hxp1 rfl hx1 (by rw [Nat.zero_add]; exact hqz) (by omega)
                      have hxl : xs.length = c2 * 4 := by
                        rw [hxs, storeL_row _ _ _ (by rw [Nat.zero_add, hqz]; simp [sSib]; omega)]
                        simp [hqz, sSib]; omega
                      clear hxs
                      have hxp := hxM.pl
                      conv => whnf
                      repeat' ((first | ((with_reducible refine y'r ?_ ?_); (· decide +kernel)) | ((with_reducible refine y'g ?_ ?_); (· exact ⟨_, rfl⟩)) | (with_reducible first | refine y'b ‹_› ?_ | refine y'n ‹_› ?_ | refine y'1 ‹_› ?_ | refine y'2 ‹_› ?_ | refine y'3 ?_ | refine y'4 ?_) | ((with_reducible refine y'n ?_ ?_); (· first | with_reducible assumption | exact decide_eq_true (by omega) | decide +kernel)) | (with_reducible first | refine y'n (y'7 ‹_› ‹_›) ?_ | refine y'v (y'8 ‹_› ‹_›) (fun s hs => ?_) | refine y'5 ‹_› ?_ | refine y'6 ‹_› ?_) | (refine ⟨_, g0, ?_⟩) | ((with_reducible apply y'o); (· exact g1)) | ((with_reducible refine y'p ?_ ?_); (· rfl)) | ((with_reducible refine y'q ?_ ?_); (· rfl)) | fail) <;> (conv => whnf))
                      refine cutx_of (fun F H => ∃ (q c2 : Nat) (b2 : Bool) (xs : List A), Rw 4 Sb.row (sibs M kr i ++ [(⟨⟨3, 2 * i + 1⟩, false, M.getD ((i + kr) % M.length) []⟩ : Sb)]) xs ∧ q = (sibs M kr i ++ [(⟨⟨3, 2 * i + 1⟩, false, M.getD ((i + kr) % M.length) []⟩ : Sb)]).length ∧ xs.length = c2 * 4 ∧ F = [(5, .a (.slc 0 0 m c)), (8, .a (.str w)), (12, .a (.int .i64 (kr : Int))), (13, .a (.ptr 2 0)), (14, .a (.int .i64 i))] ∧ H = [.cells os 9 bk, .cells [.int .u32 3, .int .u64 40] 76 false, .cells [.slc 1 0 1 1, .slc 3 0 q c2] 70 false, .cells xs 78 b2]) (Into.weak [0, 1, 2, 3] [(5, .a (.slc 0 0 m c)), (8, .a (.str w)), (12, .a (.int .i64 (kr : Int))), (13, .a (.ptr 2 0)), (14, .a (.int .i64 i))] [.cells os 9 bk, .cells [.int .u32 3, .int .u64 40] 76 false, .cells [.slc 1 0 1 1, .slc 3 0 (q + 1) c2] 70 false, .cells xs 78 b2] ⟨q + 1, c2, b2, xs, hxM, by rw [List.length_append, hq3]; rfl, hxl, rfl, rfl⟩ ⟨rfl, rfl, rfl, rfl, rfl, trivial⟩ ⟨ren_pl hq _ _ _, rfl, rfl, ren_pl hxp _ _ _, trivial⟩ (by simp [nodupb, baseb, Ob.okb, frmOk, V.okb, A.okb, hq.2, hxp.2] <;> decide)) ?_
                    case' refine_2 =>
                      have h' := of_decide_eq_false h
                      conv => whnf
                      refine y'n (decide_eq_true (by simp [sSib, bSib]; omega)) ?_
                      intro cap' hcap'
                      conv => whnf
                      repeat' ((first | ((with_reducible refine y'r ?_ ?_); (· decide +kernel)) | ((with_reducible refine y'g ?_ ?_); (· exact ⟨_, rfl⟩)) | (with_reducible first | refine y'b ‹_› ?_ | refine y'n ‹_› ?_ | refine y'1 ‹_› ?_ | refine y'2 ‹_› ?_ | refine y'3 ?_ | refine y'4 ?_) | ((with_reducible refine y'n ?_ ?_); (· first | with_reducible assumption | exact decide_eq_true (by omega) | decide +kernel)) | (with_reducible first | refine y'n (y'7 ‹_› ‹_›) ?_ | refine y'v (y'8 ‹_› ‹_›) (fun s hs => ?_) | refine y'5 ‹_› ?_ | refine y'6 ‹_› ?_) | (refine ⟨_, g0, ?_⟩) | ((with_reducible apply y'o); (· exact g1)) | ((with_reducible refine y'p ?_ ?_); (· rfl)) | ((with_reducible refine y'q ?_ ?_); (· rfl)) | fail) <;> (conv => whnf))
                      refine y'f rfl (fun xs hxs => ?_)
                      have hxM : Rw 4 Sb.row (sibs M kr i ++ [(⟨⟨3, 2 * i + 1⟩, false, M.getD ((i + kr) % M.length) []⟩ : Sb)]) xs := by rw [hxs]; exact hE.new hxp1 rfl (whole_sb.trans hx1) hqz (repl_pl4 _)
                      have hxl : xs.length = cap' * 4 := by
                        rw [hxs, hqz, List.length_append, List.length_append, List.length_drop, List.length_take, repl_len4]
                        simp [sSib]; omega
                      clear hxs
                      have hxp := hxM.pl
                      conv => whnf
                      repeat' ((first | ((with_reducible refine y'r ?_ ?_); (· decide +kernel)) | ((with_reducible refine y'g ?_ ?_); (· exact ⟨_, rfl⟩)) | (with_reducible first | refine y'b ‹_› ?_ | refine y'n ‹_› ?_ | refine y'1 ‹_› ?_ | refine y'2 ‹_› ?_ | refine y'3 ?_ | refine y'4 ?_) | ((with_reducible refine y'n ?_ ?_); (· first | with_reducible assumption | exact decide_eq_true (by omega) | decide +kernel)) | (with_reducible first | refine y'n (y'7 ‹_› ‹_›) ?_ | refine y'v (y'8 ‹_› ‹_›) (fun s hs => ?_) | refine y'5 ‹_› ?_ | refine y'6 ‹_› ?_) | (refine ⟨_, g0, ?_⟩) | ((with_reducible apply y'o); (· exact g1)) | ((with_reducible refine y'p ?_ ?_); (· rfl)) | ((with_reducible refine y'q ?_ ?_); (· rfl)) | fail) <;> (conv => whnf))
                      refine cutx_of (fun F H => ∃ (q c2 : Nat) (b2 : Bool) (xs : List A), Rw 4 Sb.row (sibs M kr i ++ [(⟨⟨3, 2 * i + 1⟩, false, M.getD ((i + kr) % M.length) []⟩ : Sb)]) xs ∧ q = (sibs M kr i ++ [(⟨⟨3, 2 * i + 1⟩, false, M.getD ((i + kr) % M.length) []⟩ : Sb)]).length ∧ xs.length = c2 * 4 ∧ F = [(5, .a (.slc 0 0 m c)), (8, .a (.str w)), (12, .a (.int .i64 (kr : Int))), (13, .a (.ptr 2 0)), (14, .a (.int .i64 i))] ∧ H = [.cells os 9 bk, .cells [.int .u32 3, .int .u64 40] 76 false, .cells [.slc 1 0 1 1, .slc 3 0 q c2] 70 false, .cells xs 78 b2]) (Into.weak [0, 1, 2, 5] [(5, .a (.slc 0 0 m c)), (8, .a (.str w)), (12, .a (.int .i64 (kr : Int))), (13, .a (.ptr 2 0)), (14, .a (.int .i64 i))] [.cells os 9 bk, .cells [.int .u32 3, .int .u64 40] 76 false, .cells [.slc 1 0 1 1, .slc 3 0 (q + 1) cap'] 70 false, .cells xs 78 false] ⟨q + 1, cap', false, xs, hxM, by rw [List.length_append, hq3]; rfl, hxl, rfl, rfl⟩ ⟨rfl, rfl, rfl, rfl, rfl, trivial⟩ ⟨ren_pl hq _ _ _, rfl, rfl, ren_pl hxp _ _ _, trivial⟩ (by simp [nodupb, baseb, Ob.okb, frmOk, V.okb, A.okb, hq.2, hxp.2] <;> decide)) ?_
                    all_goals
                      rintro F H ⟨q, c2, b2, xs, hxM, hq4, hxl, rfl, rfl⟩
                      have hxp := hxM.pl
                      clear hx1 hxp1 hqz hqc hE hel hep hq3
                      have hwi : IntKind.i64.wrap (↑i + 1) = ((i + 1 : Nat) : Int) := by rw [i64w (by omega) (by omega)]; rfl
                      by_cases h3 : i % 3 = 0
                      · have c6 : ((i : Int).tmod 3 == 0) = true := by
                          have e : (i : Int).tmod 3 = ((i % 3 : Nat) : Int) := rfl
                          rw [e, h3]; rfl
                        have hs1 : sibs M kr (i + 1) = sibs M kr i ++ [(⟨⟨3, 2 * i + 1⟩, false, M.getD ((i + kr) % M.length) []⟩ : Sb)] ++ [(⟨⟨3, 2 * i + 2⟩, true, []⟩ : Sb)] := by rw [sibs, if_pos h3, List.append_cons]
                        have hqz : q * Tryd.prog.types[78].size = (sibs M kr i ++ [(⟨⟨3, 2 * i + 1⟩, false, M.getD ((i + kr) % M.length) []⟩ : Sb)]).length * 4 := by rw [hq4, sSib]
                        have hq5 : q = (sibs M kr i).length + 1 := by rw [hq4, List.length_append]; rfl
                        have hqc : q ≤ c2 := by have := hxM.len; omega
                        have hqb2 : q ≤ 25 := by rw [hq4, List.length_append, List.length_singleton]; omega
                        have hx2 : ([.int .u32 3, .int .u64 z3, .bool true, .str { data := #[] }] : List A) = Sb.row (⟨⟨3, 2 * i + 2⟩, true, []⟩ : Sb) := by rw [hz3v]; rfl
                        have hxp2 : Pl (Sb.row (⟨⟨3, 2 * i + 2⟩, true, []⟩ : Sb)) := ⟨fun _ => rfl, fun _ => rfl⟩
                        conv => whnf
                        repeat' ((first | rw [← hz3] | ((with_reducible refine y'r ?_ ?_); (· decide +kernel)) | ((with_reducible refine y'g ?_ ?_); (· exact ⟨_, rfl⟩)) | (with_reducible first | refine y'b ‹_› ?_ | refine y'n ‹_› ?_ | refine y'1 ‹_› ?_ | refine y'2 ‹_› ?_ | refine y'3 ?_ | refine y'4 ?_) | ((with_reducible refine y'n ?_ ?_); (· first | with_reducible assumption | exact decide_eq_true (by omega) | decide +kernel)) | (with_reducible first | refine y'n (y'7 ‹_› ‹_›) ?_ | refine y'v (y'8 ‹_› ‹_›) (fun s hs => ?_) | refine y'5 ‹_› ?_ | refine y'6 ‹_› ?_) | (refine ⟨_, g0, ?_⟩) | ((with_reducible apply y'o); (· exact g1)) | ((with_reducible refine y'p ?_ ?_); (· rfl)) | ((with_reducible refine y'q ?_ ?_); (· rfl)) | fail) <;> (conv => whnf))
                        refine y'c (fun h => ?_) (fun h => ?_)
                        · have h' := of_decide_eq_true h
                          conv => whnf
                          refine y'n (decide_eq_true (by simp [sSib]; omega)) ?_
                          conv => whnf
                          repeat' ((first | ((with_reducible refine y'r ?_ ?_); (· decide +kernel)) | ((with_reducible refine y'g ?_ ?_); (· exact ⟨_, rfl⟩)) | (with_reducible first | refine y'b ‹_› ?_ | refine y'n ‹_› ?_ | refine y'1 ‹_› ?_ | refine y'2 ‹_› ?_ | refine y'3 ?_ | refine y'4 ?_) | ((with_reducible refine y'n ?_ ?_); (· first | with_reducible assumption | exact decide_eq_true (by omega) | decide +kernel)) | (with_reducible first | refine y'n (y'7 ‹_› ‹_›) ?_ | refine y'v (y'8 ‹_› ‹_›) (fun s hs => ?_) | refine y'5 ‹_› ?_ | refine y'6 ‹_› ?_) | (refine ⟨_, g0, ?_⟩) | ((with_reducible apply y'o); (· exact g1)) | ((with_reducible refine y'p ?_ ?_); (· rfl)) | ((with_reducible refine y'q ?_ ?_); (· rfl)) | fail) <;> (conv => whnf))
                          refine y'f rfl (fun ys hys => ?_)
                          have hyM : Rw 4 Sb.row (sibs M kr (i + 1)) ys := by rw [hys, hs1]; exact hxM.put hxp2 rfl hx2 (by rw [Nat.zero_add]; exact hqz) (by omega)
                          have hyl : ys.length = c2 * 4 := by
                            rw [hys, storeL_row _ _ _ (by rw [Nat.zero_add, hqz]; simp [sSib]; omega)]
                            simp [hqz, sSib]; omega
                          clear hys
                          have hyp := hyM.pl
                          conv => whnf
                          repeat' ((first | ((with_reducible refine y'r ?_ ?_); (· decide +kernel)) | ((with_reducible refine y'g ?_ ?_); (· exact ⟨_, rfl⟩)) | (with_reducible first | refine y'b ‹_› ?_ | refine y'n ‹_› ?_ | refine y'1 ‹_› ?_ | refine y'2 ‹_› ?_ | refine y'3 ?_ | refine y'4 ?_) | ((with_reducible refine y'n ?_ ?_); (· first | with_reducible assumption | exact decide_eq_true (by omega) | decide +kernel)) | (with_reducible first | refine y'n (y'7 ‹_› ‹_›) ?_ | refine y'v (y'8 ‹_› ‹_›) (fun s hs => ?_) | refine y'5 ‹_› ?_ | refine y'6 ‹_› ?_) | (refine ⟨_, g0, ?_⟩) | ((with_reducible apply y'o); (· exact g1)) | ((with_reducible refine y'p ?_ ?_); (· rfl)) | ((with_reducible refine y'q ?_ ?_); (· rfl)) | fail) <;> (conv => whnf))
                          exact ⟨m - (i + 1), by omega, Into.weak [0, 1, 2, 3] [(5, .a (.slc 0 0 m c)), (8, .a (.str w)), (12, .a (.int .i64 (kr : Int))), (13, .a (.ptr 2 0)), (14, .a (.int .i64 ((i + 1 : Nat) : Int)))] [.cells os 9 bk, .cells [.int .u32 3, .int .u64 40] 76 false, .cells [.slc 1 0 1 1, .slc 3 0 (q + 1) c2] 70 false, .cells ys 78 b2] ⟨i + 1, q + 1, c2, b2, ys, by omega, rfl, hyM, by rw [hs1, List.length_append, hq4]; rfl, hyl, rfl, rfl⟩ ⟨rfl, rfl, rfl, rfl, congrArg (fun z => some (V.a (.int .i64 z))) hwi, trivial⟩ ⟨ren_pl hq _ _ _, rfl, rfl, ren_pl hyp _ _ _, trivial⟩ (by simp [nodupb, baseb, Ob.okb, frmOk, V.okb, A.okb, hq.2, hyp.2] <;> decide)⟩
                        · have h' := of_decide_eq_false h
                          conv => whnf
                          refine y'n (decide_eq_true (by simp [sSib, bSib]; omega)) ?_
                          intro cap' hcap'
                          conv => whnf
                          repeat' ((first | ((with_reducible refine y'r ?_ ?_); (· decide +kernel)) | ((with_reducible refine y'g ?_ ?_); (· exact ⟨_, rfl⟩)) | (with_reducible first | refine y'b ‹_› ?_ | refine y'n ‹_› ?_ | refine y'1 ‹_› ?_ | refine y'2 ‹_› ?_ | refine y'3 ?_ | refine y'4 ?_) | ((with_reducible refine y'n ?_ ?_); (· first | with_reducible assumption | exact decide_eq_true (by omega) | decide +kernel)) | (with_reducible first | refine y'n (y'7 ‹_› ‹_›) ?_ | refine y'v (y'8 ‹_› ‹_›) (fun s hs => ?_) | refine y'5 ‹_› ?_ | refine y'6 ‹_› ?_) | (refine ⟨_, g0, ?_⟩) | ((with_reducible apply y'o); (· exact g1)) | ((with_reducible refine y'p ?_ ?_); (· rfl)) | ((with_reducible refine y'q ?_ ?_); (· rfl)) | fail) <;> (conv => whnf))
                          refine y'f rfl (fun ys hys => ?_)
                          have hyM : Rw 4 Sb.row (sibs M kr (i + 1)) ys := by rw [hys, hs1]; exact hxM.new hxp2 rfl (whole_sb.trans hx2) hqz (repl_pl4 _)
                          have hyl : ys.length = cap' * 4 := by
                            rw [hys, hqz, List.length_append, List.length_append, List.length_drop, List.length_take, repl_len4]
                            simp [sSib]; omega
                          clear hys
                          have hyp := hyM.pl
                          conv => whnf
                          repeat' ((first | ((with_reducible refine y'r ?_ ?_); (· decide +kernel)) | ((with_reducible refine y'g ?_ ?_); (· exact ⟨_, rfl⟩)) | (with_reducible first | refine y'b ‹_› ?_ | refine y'n ‹_› ?_ | refine y'1 ‹_› ?_ | refine y'2 ‹_› ?_ | refine y'3 ?_ | refine y'4 ?_) | ((with_reducible refine y'n ?_ ?_); (· first | with_reducible assumption | exact decide_eq_true (by omega) | decide +kernel)) | (with_reducible first | refine y'n (y'7 ‹_› ‹_›) ?_ | refine y'v (y'8 ‹_› ‹_›) (fun s hs => ?_) | refine y'5 ‹_› ?_ | refine y'6 ‹_› ?_) | (refine ⟨_, g0, ?_⟩) | ((with_reducible apply y'o); (· exact g1)) | ((with_reducible refine y'p ?_ ?_); (· rfl)) | ((with_reducible refine y'q ?_ ?_); (· rfl)) | fail) <;> (conv => whnf))
                          exact ⟨m - (i + 1), by omega, Into.weak [0, 1, 2, 5] [(5, .a (.slc 0 0 m c)), (8, .a (.str w)), (12, .a (.int .i64 (kr : Int))), (13, .a (.ptr 2 0)), (14, .a (.int .i64 ((i + 1 : Nat) : Int)))] [.cells os 9 bk, .cells [.int .u32 3, .int .u64 40] 76 false, .cells [.slc 1 0 1 1, .slc 3 0 (q + 1) cap'] 70 false, .cells ys 78 false] ⟨i + 1, q + 1, cap', false, ys, by omega, rfl, hyM, by rw [hs1, List.length_append, hq4]; rfl, hyl, rfl, rfl⟩ ⟨rfl, rfl, rfl, rfl, congrArg (fun z => some (V.a (.int .i64 z))) hwi, trivial⟩ ⟨ren_pl hq _ _ _, rfl, rfl, ren_pl hyp _ _ _, trivial⟩ (by simp [nodupb, baseb, Ob.okb, frmOk, V.okb, A.okb, hq.2, hyp.2] <;> decide)⟩
                      · have c6 : ((i : Int).tmod 3 == 0) = false := by
                          have e : (i : Int).tmod 3 = ((i % 3 : Nat) : Int) := rfl
                          rw [e]; simp; omega
                        have hs1 : sibs M kr (i + 1) = sibs M kr i ++ [(⟨⟨3, 2 * i + 1⟩, false, M.getD ((i + kr) % M.length) []⟩ : Sb)] := by rw [sibs, if_neg h3]
                        rw [← hs1] at hxM hq4
                        conv => whnf
                        repeat' ((first | ((with_reducible refine y'r ?_ ?_); (· decide +kernel)) | ((with_reducible refine y'g ?_ ?_); (· exact ⟨_, rfl⟩)) | (with_reducible first | refine y'b ‹_› ?_ | refine y'n ‹_› ?_ | refine y'1 ‹_› ?_ | refine y'2 ‹_› ?_ | refine y'3 ?_ | refine y'4 ?_) | ((with_reducible refine y'n ?_ ?_); (· first | with_reducible assumption | exact decide_eq_true (by omega) | decide +kernel)) | (with_reducible first | refine y'n (y'7 ‹_› ‹_›) ?_ | refine y'v (y'8 ‹_› ‹_›) (fun s hs => ?_) | refine y'5 ‹_› ?_ | refine y'6 ‹_› ?_) | (refine ⟨_, g0, ?_⟩) | ((with_reducible apply y'o); (· exact g1)) | ((with_reducible refine y'p ?_ ?_); (· rfl)) | ((with_reducible refine y'q ?_ ?_); (· rfl)) | fail) <;> (conv => whnf))
                        exact ⟨m - (i + 1), by omega, Into.weak [0, 1, 2, 3] [(5, .a (.slc 0 0 m c)), (8, .a (.str w)), (12, .a (.int .i64 (kr : Int))), (13, .a (.ptr 2 0)), (14, .a (.int .i64 ((i + 1 : Nat) : Int)))] [.cells os 9 bk, .cells [.int .u32 3, .int .u64 40] 76 false, .cells [.slc 1 0 1 1, .slc 3 0 q c2] 70 false, .cells xs 78 b2] ⟨i + 1, q, c2, b2, xs, by omega, rfl, hxM, hq4, hxl, rfl, rfl⟩ ⟨rfl, rfl, rfl, rfl, congrArg (fun z => some (V.a (.int .i64 z))) hwi, trivial⟩ ⟨ren_pl hq _ _ _, rfl, rfl, ren_pl hxp _ _ _, trivial⟩ (by simp [nodupb, baseb, Ob.okb, frmOk, V.okb, A.okb, hq.2, hxp.2] <;> decide)⟩
                  · have d1 : decide ((i : Int) < (m : Int)) = false := decide_eq_false (by omega)
                    obtain rfl : m = i := by omega
                    have hL' : Lub vs vs.length T := by rw [hvl, ← hm]; exact hL
                    obtain ⟨R1, R2, R3⟩ := three (k := kr) hvl hvM hvo hL' (by omega) (by omega)
                    rw [← hm] at R1 R2 R3
                    have hsl := sibs_len (l := M) (k := kr) m
                    have hqb : q ≤ 24 := by omega
                    have hqc : q ≤ c2 := by have := hE.len; omega
                    have hww : (w.data.toList == w.data.toList) = true := by simp
                    have k1 := @resolve8 ro hT seen3 (sibs M kr m) _ es 1 1 q c2 false b2 rw_seen hE rfl (by omega) hq3 (by omega) _ _ R1
                    rw [← hw] at k1
                    have hxp1 : Pl (Sb.row quest) := ⟨fun _ => rfl, fun _ => rfl⟩
                    have hx1 : ([.int .u32 3, .int .u64 39, .bool false, .str { data := #[63] }] : List A) = Sb.row quest := rfl
                    have hqz : q * Tryd.prog.types[78].size = (sibs M kr m).length * 4 := by rw [hq3, sSib]
                    conv => whnf
                    repeat' ((first | ((with_reducible refine y'r ?_ ?_); (· decide +kernel)) | ((with_reducible refine y'g ?_ ?_); (· exact ⟨_, rfl⟩)) | (with_reducible first | refine y'b ‹_› ?_ | refine y'n ‹_› ?_ | refine y'1 ‹_› ?_ | refine y'2 ‹_› ?_ | refine y'3 ?_ | refine y'4 ?_) | ((with_reducible refine y'n ?_ ?_); (· first | with_reducible assumption | exact decide_eq_true (by omega) | decide +kernel)) | (with_reducible first | refine y'n (y'7 ‹_› ‹_›) ?_ | refine y'v (y'8 ‹_› ‹_›) (fun s hs => ?_) | refine y'5 ‹_› ?_ | refine y'6 ‹_› ?_) | (refine ⟨_, g0, ?_⟩) | ((with_reducible apply y'o); (· exact g1)) | ((with_reducible refine y'p ?_ ?_); (· rfl)) | ((with_reducible refine y'q ?_ ?_); (· rfl)) | (refine Fn.frame [1, 3] (by rfl) (by exact ⟨rfl, ren_pl hep _ _ _, trivial⟩) (by simp [nodupb, V.okb, A.okb, Ob.okb, hep.2] <;> rfl) (k1 ?_)) | fail) <;> (conv => whnf))
                    refine y'c (fun h => ?_) (fun h => ?_)
                    case' refine_1 =>
                      have h' := of_decide_eq_true h
                      conv => whnf
                      refine y'n (decide_eq_true (by simp [sSib]; omega)) ?_
                      conv => whnf
                      repeat' ((first | ((with_reducible refine y'r ?_ ?_); (· decide +kernel)) | ((with_reducible refine y'g ?_ ?_); (· exact ⟨_, rfl⟩)) | (with_reducible first | refine y'b ‹_› ?_ | refine y'n ‹_› ?_ | refine y'1 ‹_› ?_ | refine y'2 ‹_› ?_ | refine y'3 ?_ | refine y'4 ?_) | ((with_reducible refine y'n ?_ ?_); (· first | with_reducible assumption | exact decide_eq_true (by omega) | decide +kernel)) | (with_reducible first | refine y'n (y'7 ‹_› ‹_›) ?_ | refine y'v (y'8 ‹_› ‹_›) (fun s hs => ?_) | refine y'5 ‹_› ?_ | refine y'6 ‹_› ?_) | (refine ⟨_, g0, ?_⟩) | ((with_reducible apply y'o); (· exact g1)) | ((with_reducible refine y'p ?_ ?_); (· rfl)) | ((with_reducible refine y'q ?_ ?_); (· rfl)) | fail) <;> (conv => whnf))
                      refine y'f rfl (fun xs hxs => ?_)
                      have hxM : Rw 4 Sb.row (sibs M kr m ++ [quest]) xs := by rw [hxs]; exact hE.put hxp1 rfl hx1 (by rw [Nat.zero_add]; exact hqz) (by omega)
                      clear hxs
                      have hxp := hxM.pl
                      have k2 := @resolve8 ro hT seen3 (sibs M kr m ++ [quest]) _ xs 1 1 (q + 1) c2 false b2 rw_seen hxM rfl (by omega) (by rw [List.length_append, hq3]; rfl) (by omega) _ _ R2
                      conv => whnf
                      repeat' ((first | ((with_reducible refine y'r ?_ ?_); (· decide +kernel)) | ((with_reducible refine y'g ?_ ?_); (· exact ⟨_, rfl⟩)) | (with_reducible first | refine y'b ‹_› ?_ | refine y'n ‹_› ?_ | refine y'1 ‹_› ?_ | refine y'2 ‹_› ?_ | refine y'3 ?_ | refine y'4 ?_) | ((with_reducible refine y'n ?_ ?_); (· first | with_reducible assumption | exact decide_eq_true (by omega) | decide +kernel)) | (with_reducible first | refine y'n (y'7 ‹_› ‹_›) ?_ | refine y'v (y'8 ‹_› ‹_›) (fun s hs => ?_) | refine y'5 ‹_› ?_ | refine y'6 ‹_› ?_) | (refine ⟨_, g0, ?_⟩) | ((with_reducible apply y'o); (· exact g1)) | ((with_reducible refine y'p ?_ ?_); (· rfl)) | ((with_reducible refine y'q ?_ ?_); (· rfl)) | (refine Fn.frame [1, 3] (by rfl) (by exact ⟨rfl, ren_pl hxp _ _ _, trivial⟩) (by simp [nodupb, V.okb, A.okb, Ob.okb, hxp.2] <;> rfl) (k2 ?_)) | fail) <;> (conv => whnf))
                      refine cutx_of (fun F H => ∃ (q c2 : Nat) (b2 : Bool) (xs : List A), Rw 4 Sb.row (sibs M kr m ++ [quest]) xs ∧ q = (sibs M kr m ++ [quest]).length ∧ q ≤ 25 ∧ F = [(8, .a (.str w)), (13, .a (.ptr 0 0)), (15, .a (.str w)), (16, .a (.int .i64 0)), (18, .a (.int .i64 120))] ∧ H = [.cells [.slc 2 0 0 0, .slc 1 0 q c2] 70 false, .cells xs 78 b2, .cells [] 76 false]) ?_ ?_
                      · refine Into.ghost 5 [(8, .a (.str w)), (13, .a (.ptr 2 0)), (15, .a (.str w)), (16, .a (.int .i64 0)), (18, .a (.int .i64 120))] [.cells os 9 bk, .cells [.int .u32 3, .int .u64 40] 76 false, .cells [.slc 5 0 0 0, .slc 3 0 (q + 1) c2] 70 false, .cells xs 78 b2, .cells [.int .u32 3, .int .u64 39, .bool false, .str { data := #[63] }] 78 false, .cells [] 76 false] rfl ⟨rfl, rfl, rfl, rfl, rfl, trivial⟩ ⟨ung_pl hq.1 _ _ _, rfl, rfl, ung_pl hxp.1 _ _ _, rfl, rfl, trivial⟩ (by simp [Ob.okb, frmOk, V.okb, A.okb, hq.2, hxp.2] <;> decide) ?_
                        exact Into.weak [2, 3, 5] _ [.cells [.slc 2 0 0 0, .slc 1 0 (q + 1) c2] 70 false, .cells xs 78 b2, .cells [] 76 false] ⟨q + 1, c2, b2, xs, hxM, by rw [List.length_append, hq3]; rfl, by omega, rfl, rfl⟩ ⟨rfl, rfl, rfl, rfl, rfl, trivial⟩ ⟨rfl, ren_pl hxp _ _ _, rfl, trivial⟩ (by simp [nodupb, baseb, Ob.okb, frmOk, V.okb, A.okb, hq.2, hxp.2] <;> decide)
                    case' refine_2 =>
                      have h' := of_decide_eq_false h
                      conv => whnf
                      refine y'n (decide_eq_true (by simp [sSib, bSib]; omega)) ?_
                      intro cap' hcap'
                      conv => whnf
                      repeat' ((first | ((with_reducible refine y'r ?_ ?_); (· decide +kernel)) | ((with_reducible refine y'g ?_ ?_); (· exact ⟨_, rfl⟩)) | (with_reducible first | refine y'b ‹_› ?_ | refine y'n ‹_› ?_ | refine y'1 ‹_› ?_ | refine y'2 ‹_› ?_ | refine y'3 ?_ | refine y'4 ?_) | ((with_reducible refine y'n ?_ ?_); (· first | with_reducible assumption | exact decide_eq_true (by omega) | decide +kernel)) | (with_reducible first | refine y'n (y'7 ‹_› ‹_›) ?_ | refine y'v (y'8 ‹_› ‹_›) (fun s hs => ?_) | refine y'5 ‹_› ?_ | refine y'6 ‹_› ?_) | (refine ⟨_, g0, ?_⟩) | ((with_reducible apply y'o); (· exact g1)) | ((with_reducible refine y'p ?_ ?_); (· rfl)) | ((with_reducible refine y'q ?_ ?_); (· rfl)) | fail) <;> (conv => whnf))
                      refine y'f rfl (fun xs hxs => ?_)
                      have hxM : Rw 4 Sb.row (sibs M kr m ++ [quest]) xs := by rw [hxs]; exact hE.new hxp1 rfl (whole_sb.trans hx1) hqz (repl_pl4 _)
                      clear hxs
                      have hxp := hxM.pl
                      have k2 := @resolve8 ro hT seen3 (sibs M kr m ++ [quest]) _ xs 1 1 (q + 1) cap' false false rw_seen hxM rfl (by omega) (by rw [List.length_append, hq3]; rfl) (by omega) _ _ R2
                      conv => whnf
                      repeat' ((first | ((with_reducible refine y'r ?_ ?_); (· decide +kernel)) | ((with_reducible refine y'g ?_ ?_); (· exact ⟨_, rfl⟩)) | (with_reducible first | refine y'b ‹_› ?_ | refine y'n ‹_› ?_ | refine y'1 ‹_› ?_ | refine y'2 ‹_› ?_ | refine y'3 ?_ | refine y'4 ?_) | ((with_reducible refine y'n ?_ ?_); (· first | with_reducible assumption | exact decide_eq_true (by omega) | decide +kernel)) | (with_reducible first | refine y'n (y'7 ‹_› ‹_›) ?_ | refine y'v (y'8 ‹_› ‹_›) (fun s hs => ?_) | refine y'5 ‹_› ?_ | refine y'6 ‹_› ?_) | (refine ⟨_, g0, ?_⟩) | ((with_reducible apply y'o); (· exact g1)) | ((with_reducible refine y'p ?_ ?_); (· rfl)) | ((with_reducible refine y'q ?_ ?_); (· rfl)) | (refine Fn.frame [1, 5] (by rfl) (by exact ⟨rfl, ren_pl hxp _ _ _, trivial⟩) (by simp [nodupb, V.okb, A.okb, Ob.okb, hxp.2] <;> rfl) (k2 ?_)) | fail) <;> (conv => whnf))
                      refine cutx_of (fun F H => ∃ (q c2 : Nat) (b2 : Bool) (xs : List A), Rw 4 Sb.row (sibs M kr m ++ [quest]) xs ∧ q = (sibs M kr m ++ [quest]).length ∧ q ≤ 25 ∧ F = [(8, .a (.str w)), (13, .a (.ptr 0 0)), (15, .a (.str w)), (16, .a (.int .i64 0)), (18, .a (.int .i64 120))] ∧ H = [.cells [.slc 2 0 0 0, .slc 1 0 q c2] 70 false, .cells xs 78 b2, .cells [] 76 false]) ?_ ?_
                      · refine Into.ghost 6 [(8, .a (.str w)), (13, .a (.ptr 2 0)), (15, .a (.str w)), (16, .a (.int .i64 0)), (18, .a (.int .i64 120))] [.cells os 9 bk, .cells [.int .u32 3, .int .u64 40] 76 false, .cells [.slc 6 0 0 0, .slc 5 0 (q + 1) cap'] 70 false, .cells es 78 b2, .cells [.int .u32 3, .int .u64 39, .bool false, .str { data := #[63] }] 78 false, .cells xs 78 false, .cells [] 76 false] rfl ⟨rfl, rfl, rfl, rfl, rfl, trivial⟩ ⟨ung_pl hq.1 _ _ _, rfl, rfl, ung_pl hep.1 _ _ _, rfl, ung_pl hxp.1 _ _ _, rfl, trivial⟩ (by simp [Ob.okb, frmOk, V.okb, A.okb, hq.2, hxp.2, hep.2] <;> decide) ?_
                        exact Into.weak [2, 5, 6] _ [.cells [.slc 2 0 0 0, .slc 1 0 (q + 1) cap'] 70 false, .cells xs 78 false, .cells [] 76 false] ⟨q + 1, cap', false, xs, hxM, by rw [List.length_append, hq3]; rfl, by omega, rfl, rfl⟩ ⟨rfl, rfl, rfl, rfl, rfl, trivial⟩ ⟨rfl, ren_pl hxp _ _ _, rfl, trivial⟩ (by simp [nodupb, baseb, Ob.okb, frmOk, V.okb, A.okb, hq.2, hxp.2] <;> decide)
                    all_goals
                      rintro F H ⟨q, c2, b2, xs, hxM, hq4, hqb, rfl, rfl⟩
                      have hxp := hxM.pl
                      have k3 := @resolve8 ro hT [] (sibs M kr m ++ [quest]) [] xs 0 0 q c2 false b2 (Rw.nil ⟨fun _ => rfl, fun _ => rfl⟩) hxM rfl (by omega) hq4 (by omega) _ _ R3
                      conv => whnf
                      repeat' ((first | ((with_reducible refine y'r ?_ ?_); (· decide +kernel)) | ((with_reducible refine y'g ?_ ?_); (· exact ⟨_, rfl⟩)) | (with_reducible first | refine y'b ‹_› ?_ | refine y'n ‹_› ?_ | refine y'1 ‹_› ?_ | refine y'2 ‹_› ?_ | refine y'3 ?_ | refine y'4 ?_) | ((with_reducible refine y'n ?_ ?_); (· first | with_reducible assumption | exact decide_eq_true (by omega) | decide +kernel)) | (with_reducible first | refine y'n (y'7 ‹_› ‹_›) ?_ | refine y'v (y'8 ‹_› ‹_›) (fun s hs => ?_) | refine y'5 ‹_› ?_ | refine y'6 ‹_› ?_) | (refine ⟨_, g0, ?_⟩) | ((with_reducible apply y'o); (· exact g1)) | ((with_reducible refine y'p ?_ ?_); (· rfl)) | ((with_reducible refine y'q ?_ ?_); (· rfl)) | (refine Fn.frame [2, 1] (by rfl) (by exact ⟨rfl, ren_pl hxp _ _ _, trivial⟩) (by simp [nodupb, V.okb, A.okb, Ob.okb, hxp.2] <;> rfl) (k3 ?_)) | fail) <;> (conv => whnf))
                      exact keepOf (v₀ := .a (.bool true)) [] [] rfl trivial rfl hK
end
end Go.Proofs.YtimddbgnaeeggaaDoor.KD
namespace Go.Proofs.YtimddbgnaeeggaaDoor.KD
open Go.Eng
set_option maxRecDepth 100000
def KSt : List Sc := [.str]
theorem topAnyDots (W : World) (hL : laidMetH Tryd.prog Rows.kindsAnyDotsRow.laid W) (y : A) (len cap : Nat) (G : Nat → List A) (hG : IsSl W 1 KSt y len cap G) (hb : cap * 16 ≤ 140737488351232) (t : Int) (_ : IntKind.i64.min ≤ t ∧ t ≤ IntKind.i64.max) :
    Go.Eng.Fn Tryd.prog (roOf W) 10 [.a y, .a (.int .i64 t)] [] (fun v _ => v = .a (.bool true)) := by
  rcases id hG with ⟨rfl, h0⟩ | ⟨p, rfl, h1, h2, _⟩
  · exact anyNil t rfl
  · have key : ∀ i, i < len → ∃ z : List UInt8, roOf W (p.add i) (.str (bs z)) := fun i hi => by
      obtain ⟨hf, hro⟩ := hG.get hi
      unfold KSt at hf
      obtain ⟨z, r0, e0, _, g0⟩ := Fits.str hf
      obtain rfl := Fits.nil g0
      rw [e0] at hro
      have := hro 0 _ rfl
      refine ⟨z.data.toList, ?_⟩
      rw [← bs_eq z]
      simpa using this
    let Z : List (List UInt8) := List.ofFn fun i : Fin len => Classical.choose (key i i.2)
    have hZ : len = Z.length := by show len = (List.ofFn _).length; rw [List.length_ofFn]
    refine any10 (tabs_of hL) Z p len cap t hZ (by omega) (fun i z hz => ?_) rfl
    obtain ⟨hi, hz'⟩ := List.getElem?_eq_some_iff.1 hz
    have hi' : i < len := by omega
    have e : z = Classical.choose (key i hi') := by rw [← hz']; exact List.getElem_ofFn ..
    rw [e]
    exact Classical.choose_spec (key i hi')
end Go.Proofs.YtimddbgnaeeggaaDoor.KD
