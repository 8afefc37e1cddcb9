import Derived.Test.YtimddbgnaeeggaaDoorUD
import Derived.Test.YtimddbgnaeeggaaDoorKJ
import Derived.Test.YtimddbgnaeeggaaDoorKN
import Derived.Test.YtimddbgnaeeggaaDoorKP
namespace Go.Proofs.YtimddbgnaeeggaaDoor.KD
open Go.Eng
set_option maxRecDepth 100000
/-! ### The join of values, plainly. -/
theorem mg_mem : ∀ (a b : List Nat) (r : Nat), r ∈ mg a b ↔ r ∈ a ∨ r ∈ b
  | [], b, r => by rw [mg_nil]; simp
  | x :: a, [], r => by rw [mg_nil2]; simp
  | x :: a, y :: b, r => by
    rcases Nat.lt_trichotomy x y with h | h | h
    · rw [mg_lt a b h, List.mem_cons, mg_mem a (y :: b) r, List.mem_cons, List.mem_cons]
      constructor
      · rintro (h | h | h | h) <;> simp [h]
      · rintro ((h | h) | h | h) <;> simp [h]
    · subst h
      rw [mg_eq, List.mem_cons, mg_mem a b r, List.mem_cons, List.mem_cons]
      constructor
      · rintro (h | h | h) <;> simp [h]
      · rintro ((h | h) | h | h) <;> simp [h]
    · rw [mg_gt a b h, List.mem_cons, mg_mem (x :: a) b r, List.mem_cons, List.mem_cons]
      constructor
      · rintro (h | (h | h) | h) <;> simp [h]
      · rintro ((h | h) | h | h) <;> simp [h]
termination_by a b => a.length + b.length
theorem mg_rise : ∀ {a b : List Nat}, Rise a → Rise b → Rise (mg a b)
  | [], b, _, hb => by rw [mg_nil]; exact hb
  | x :: a, [], ha, _ => by rw [mg_nil2]; exact ha
  | x :: a, y :: b, ha, hb => by
    have ha' := List.pairwise_cons.1 ha
    have hb' := List.pairwise_cons.1 hb
    rcases Nat.lt_trichotomy x y with h | h | h
    · rw [mg_lt a b h]
      refine List.pairwise_cons.2 ⟨fun r hr => ?_, mg_rise ha'.2 hb⟩
      rcases (mg_mem _ _ _).1 hr with hr | hr
      · exact ha'.1 r hr
      · rcases List.mem_cons.1 hr with rfl | hr
        · exact h
        · have := hb'.1 r hr; omega
    · subst h
      rw [mg_eq]
      refine List.pairwise_cons.2 ⟨fun r hr => ?_, mg_rise ha'.2 hb'.2⟩
      rcases (mg_mem _ _ _).1 hr with hr | hr
      · exact ha'.1 r hr
      · exact hb'.1 r hr
    · rw [mg_gt a b h]
      refine List.pairwise_cons.2 ⟨fun r hr => ?_, mg_rise ha hb'.2⟩
      rcases (mg_mem _ _ _).1 hr with hr | hr
      · rcases List.mem_cons.1 hr with rfl | hr
        · exact h
        · have := ha'.1 r hr; omega
      · exact hb'.1 r hr
termination_by a b => a.length + b.length
theorem rise_ext : ∀ {a b : List Nat}, Rise a → Rise b → (∀ r, r ∈ a ↔ r ∈ b) → a = b
  | [], [], _, _, _ => rfl
  | [], y :: b, _, _, h => by have := (h y).2 (by simp); simp at this
  | x :: a, [], _, _, h => by have := (h x).1 (by simp); simp at this
  | x :: a, y :: b, ha, hb, h => by
    have ha' := List.pairwise_cons.1 ha
    have hb' := List.pairwise_cons.1 hb
    have e : x = y := by
      rcases List.mem_cons.1 ((h x).1 (by simp)) with e | e
      · exact e
      · rcases List.mem_cons.1 ((h y).2 (by simp)) with e' | e'
        · exact e'.symm
        · have h1 := hb'.1 x e; have h2 := ha'.1 y e'; omega
    subst e
    rw [rise_ext ha'.2 hb'.2 (fun r => ?_)]
    constructor
    · intro hr
      rcases List.mem_cons.1 ((h r).1 (by simp [hr])) with e | e
      · have := ha'.1 r hr; omega
      · exact e
    · intro hr
      rcases List.mem_cons.1 ((h r).2 (by simp [hr])) with e | e
      · have := hb'.1 r hr; omega
      · exact e
theorem mg_allv {a b : List Nat} (ha : AllV a) (hb : AllV b) : AllV (mg a b) := fun r hr => by
  rcases (mg_mem _ _ _).1 hr with h | h
  · exact ha r h
  · exact hb r h
theorem mg_comm {a b : List Nat} (ha : Rise a) (hb : Rise b) : mg a b = mg b a :=
  rise_ext (mg_rise ha hb) (mg_rise hb ha) (fun r => by rw [mg_mem, mg_mem]; exact Or.comm)
theorem mg_idem {a : List Nat} (ha : Rise a) : mg a a = a := rise_ext (mg_rise ha ha) ha (fun r => by rw [mg_mem]; simp)
theorem mg_assoc {a b c : List Nat} (ha : Rise a) (hb : Rise b) (hc : Rise c) : mg (mg a b) c = mg a (mg b c) :=
  rise_ext (mg_rise (mg_rise ha hb) hc) (mg_rise ha (mg_rise hb hc)) (fun r => by rw [mg_mem, mg_mem, mg_mem, mg_mem]; exact or_assoc)
def Va.jn : Va → Va → Va
  | .flag a, .flag b => .flag (a || b)
  | .real u, .real w => .real (gt u w)
  | .tally c, .tally d => .tally (mxC c d)
  | .runes r, .runes s => .runes (mg r s)
  | .corner u w, .corner u' w' => .corner (gt u u') (gt w w')
  | v, _ => v
theorem gt_idem (u : Nat) : gt u u = u := by unfold gt; split <;> rfl
theorem gt_assoc (u v w : Nat) : gt (gt u v) w = gt u (gt v w) := by
  unfold gt
  by_cases h1 : rk v < rk u
  · by_cases h2 : rk w < rk v
    · rw [if_pos h1, if_pos h2, if_pos h1, if_pos (by omega)]
    · rw [if_pos h1, if_neg h2]
  · by_cases h2 : rk w < rk v
    · rw [if_neg h1, if_pos h2, if_neg h1]
    · rw [if_neg h1, if_neg h2, if_neg (by omega)]
theorem mxC_comm (c d : List Nat) : mxC c d = mxC d c := by
  unfold mxC
  induction c generalizing d with
  | nil => cases d <;> rfl
  | cons x c ih => cases d with
    | nil => rfl
    | cons y d => rw [List.zipWith_cons_cons, List.zipWith_cons_cons, ih d, Nat.max_comm]
theorem mxC_idem (c : List Nat) : mxC c c = c := by
  unfold mxC
  induction c with
  | nil => rfl
  | cons x c ih => rw [List.zipWith_cons_cons, ih, Nat.max_self]
theorem mxC_assoc (c d e : List Nat) : mxC (mxC c d) e = mxC c (mxC d e) := by
  unfold mxC
  induction c generalizing d e with
  | nil => cases d <;> cases e <;> rfl
  | cons x c ih => cases d with
    | nil => cases e <;> rfl
    | cons y d => cases e with
      | nil => rfl
      | cons z e => rw [List.zipWith_cons_cons, List.zipWith_cons_cons, List.zipWith_cons_cons, List.zipWith_cons_cons, ih d e, Nat.max_assoc]
theorem kind_1' {v : Va} (h : v.kind = 1) : ∃ b, v = .flag b := by cases v <;> first | exact ⟨_, rfl⟩ | cases h
theorem kind_2' {v : Va} (h : v.kind = 2) : ∃ b, v = .real b := by cases v <;> first | exact ⟨_, rfl⟩ | cases h
theorem kind_3' {v : Va} (h : v.kind = 3) : ∃ b, v = .tally b := by cases v <;> first | exact ⟨_, rfl⟩ | cases h
theorem kind_4' {v : Va} (h : v.kind = 4) : ∃ b, v = .runes b := by cases v <;> first | exact ⟨_, rfl⟩ | cases h
theorem kind_5' {v : Va} (h : v.kind = 5) : ∃ b c, v = .corner b c := by cases v <;> first | exact ⟨_, _, rfl⟩ | cases h
/-- Two values of a kind. -/
inductive Two : Va → Va → Prop
  | flag (a b : Bool) : Two (.flag a) (.flag b)
  | real (u w : Nat) : Two (.real u) (.real w)
  | tally (c d : List Nat) : Two (.tally c) (.tally d)
  | runes (r s : List Nat) : Two (.runes r) (.runes s)
  | corner (u w u' w' : Nat) : Two (.corner u w) (.corner u' w')
theorem two_of {v w : Va} (h : v.kind = w.kind) : Two v w := by
  cases v <;> cases w <;> first | constructor | (revert h; simp [Va.kind]; done)
theorem Va.jn_kind {v w : Va} (h : v.kind = w.kind) : (v.jn w).kind = v.kind := by
  cases two_of h <;> rfl
theorem Va.jn_comm {v w : Va} (hv : v.ok) (hw : w.ok) (h : v.kind = w.kind) : v.jn w = w.jn v := by
  cases two_of h with
  | flag a b => simp only [Va.jn]; rw [Bool.or_comm]
  | real u w => simp only [Va.jn]; rw [gt_comm hv hw]
  | tally c d => simp only [Va.jn]; rw [mxC_comm]
  | runes r s => simp only [Va.jn]; rw [mg_comm hv.2.1 hw.2.1]
  | corner u w u' w' => simp only [Va.jn]; rw [gt_comm hv.1 hw.1, gt_comm hv.2 hw.2]
theorem Va.jn_idem {v : Va} (hv : v.ok) : v.jn v = v := by
  cases v with
  | flag a => simp only [Va.jn]; rw [Bool.or_self]
  | real u => simp only [Va.jn]; rw [gt_idem]
  | tally c => simp only [Va.jn]; rw [mxC_idem]
  | runes r => simp only [Va.jn]; rw [mg_idem hv.2.1]
  | corner u w => simp only [Va.jn]; rw [gt_idem, gt_idem]
theorem Va.jn_assoc {u v w : Va} (hu : u.ok) (hv : v.ok) (hw : w.ok) (h : u.kind = v.kind) (h' : v.kind = w.kind) : (u.jn v).jn w = u.jn (v.jn w) := by
  cases two_of h with
  | flag a b => obtain ⟨c, rfl⟩ := kind_1' (v := w) h'.symm; simp only [Va.jn]; rw [Bool.or_assoc]
  | real a b => obtain ⟨c, rfl⟩ := kind_2' (v := w) h'.symm; simp only [Va.jn]; rw [gt_assoc]
  | tally a b => obtain ⟨c, rfl⟩ := kind_3' (v := w) h'.symm; simp only [Va.jn]; rw [mxC_assoc]
  | runes a b => obtain ⟨c, rfl⟩ := kind_4' (v := w) h'.symm; simp only [Va.jn]; rw [mg_assoc hu.2.1 hv.2.1 hw.2.1]
  | corner a b a' b' => obtain ⟨c, c', rfl⟩ := kind_5' (v := w) h'.symm; simp only [Va.jn]; rw [gt_assoc, gt_assoc]
theorem Va.jn_ok {v w : Va} (hv : v.ok) (hw : w.ok) (h : v.kind = w.kind) (hl : (v.jn w).bytes.length ≤ 40) : (v.jn w).ok := by
  cases two_of h with
  | flag a b => trivial
  | real a b => exact can_gt hv hw
  | tally a b => exact Ct.mx hv hw
  | runes a b => exact ⟨mg_allv hv.1 hw.1, mg_rise hv.2.1 hw.2.1, by simp only [Va.jn, Va.bytes, List.length_cons] at hl; omega⟩
  | corner a b a' b' => exact ⟨can_gt hv.1 hw.1, can_gt hv.2 hw.2⟩
/-! ### Kind, Join, Below of whatever bytes, plainly. -/
open Classical in
@[irreducible] noncomputable def kd (L : List UInt8) : Nat := if h : IsVa L then (Classical.choose h).kind.toNat else 0
theorem kd_va {v : Va} (hv : v.ok) {L : List UInt8} (e : L = v.bytes) : kd L = v.kind.toNat := by
  have h : IsVa L := ⟨v, hv, e⟩
  unfold kd
  rw [dif_pos h]
  have hc := Classical.choose_spec h
  rw [Va.inj hc.1 hv (hc.2.symm.trans e)]
theorem kd_no {L : List UInt8} (h : ¬ IsVa L) : kd L = 0 := by unfold kd; rw [dif_neg h]
/-- Both are values, of one kind. -/
def Pr (L M : List UInt8) (v w : Va) : Prop := v.ok ∧ w.ok ∧ v.kind = w.kind ∧ L = v.bytes ∧ M = w.bytes
open Classical in
@[irreducible] noncomputable def jnB (L M : List UInt8) : List UInt8 × Int :=
  if h : ∃ p : Va × Va, Pr L M p.1 p.2 then (if ((Classical.choose h).1.jn (Classical.choose h).2).bytes.length ≤ 40 then (((Classical.choose h).1.jn (Classical.choose h).2).bytes, 0) else ([], 82)) else ([], 120)
theorem Pr.inj {L M : List UInt8} {v w v' w' : Va} (h : Pr L M v w) (h' : Pr L M v' w') : v = v' ∧ w = w' :=
  ⟨Va.inj h.1 h'.1 (h.2.2.2.1.symm.trans h'.2.2.2.1), Va.inj h.2.1 h'.2.1 (h.2.2.2.2.symm.trans h'.2.2.2.2)⟩
theorem jnB_va {L M : List UInt8} {v w : Va} (h : Pr L M v w) : jnB L M = if (v.jn w).bytes.length ≤ 40 then ((v.jn w).bytes, 0) else ([], 82) := by
  have h0 : ∃ p : Va × Va, Pr L M p.1 p.2 := ⟨(v, w), h⟩
  have hc : Pr L M (Classical.choose h0).1 (Classical.choose h0).2 := Classical.choose_spec h0
  obtain ⟨e1, e2⟩ := hc.inj h
  unfold jnB
  rw [dif_pos h0, e1, e2]
theorem jnB_no {L M : List UInt8} (h : ∀ v w, ¬ Pr L M v w) : jnB L M = ([], 120) := by
  unfold jnB
  rw [dif_neg (fun ⟨p, hp⟩ => h p.1 p.2 hp)]
inductive Jn (L M : List UInt8) : Prop
  | big (v w : Va) (h : Pr L M v w) (hl : ¬ (v.jn w).bytes.length ≤ 40) (e : jnB L M = ([], 82))
  | val (v w : Va) (h : Pr L M v w) (hl : (v.jn w).bytes.length ≤ 40) (e : jnB L M = ((v.jn w).bytes, 0))
  | no (h : ∀ v w, ¬ Pr L M v w) (e : jnB L M = ([], 120))
theorem jn_cases (L M : List UInt8) : Jn L M := by
  by_cases h : ∃ p : Va × Va, Pr L M p.1 p.2
  · obtain ⟨⟨v, w⟩, h⟩ := h
    have e := jnB_va h
    by_cases hl : (v.jn w).bytes.length ≤ 40
    · rw [if_pos hl] at e; exact .val v w h hl e
    · rw [if_neg hl] at e; exact .big v w h hl e
  · have h' : ∀ v w, ¬ Pr L M v w := fun v w hp => h ⟨(v, w), hp⟩
    exact .no h' (jnB_no h')
open Classical in
@[irreducible] noncomputable def blB (L M : List UInt8) : Bool := decide ((jnB L M).2 = 0 ∧ (jnB L M).1 = M)
theorem blB_iff (L M : List UInt8) : blB L M = true ↔ (jnB L M).2 = 0 ∧ (jnB L M).1 = M := by unfold blB; exact decide_eq_true_iff
theorem blB_va {L M : List UInt8} (h : blB L M = true) : ∃ v w, Pr L M v w ∧ v.jn w = w := by
  rw [blB_iff] at h
  rcases jn_cases L M with ⟨v, w, hp, hl, e⟩ | ⟨v, w, hp, hl, e⟩ | ⟨hp, e⟩
  · rw [e] at h; exact absurd h.1 (by show ¬ ((82 : Int) = 0); decide)
  · rw [e] at h
    exact ⟨v, w, hp, Va.inj (Va.jn_ok hp.1 hp.2.1 hp.2.2.1 hl) hp.2.1 (h.2.trans hp.2.2.2.2)⟩
  · rw [e] at h; exact absurd h.1 (by show ¬ ((120 : Int) = 0); decide)
theorem blB_of {L M : List UInt8} {v w : Va} (h : Pr L M v w) (e : v.jn w = w) : blB L M = true := by
  rw [blB_iff, jnB_va h, e, if_pos (Va.len h.2.1)]
  exact ⟨rfl, h.2.2.2.2.symm⟩
theorem Pr.swap {L M : List UInt8} {v w : Va} (h : Pr L M v w) : Pr M L w v := ⟨h.2.1, h.1, h.2.2.1.symm, h.2.2.2.2, h.2.2.2.1⟩
/-! ### The laws. -/
theorem law_comm (L M : List UInt8) : jnB M L = jnB L M := by
  rcases jn_cases L M with ⟨v, w, hp, hl, e⟩ | ⟨v, w, hp, hl, e⟩ | ⟨hp, e⟩
  · rw [e, jnB_va hp.swap, ← Va.jn_comm hp.1 hp.2.1 hp.2.2.1, if_neg hl]
  · rw [e, jnB_va hp.swap, ← Va.jn_comm hp.1 hp.2.1 hp.2.2.1, if_pos hl]
  · rw [e, jnB_no (fun v w h => hp w v h.swap)]
theorem law_self {L : List UInt8} (h : kd L ≠ 0) : jnB L L = (L, 0) ∧ blB L L = true := by
  by_cases hV : IsVa L
  · obtain ⟨v, hv, e⟩ := hV
    have hp : Pr L L v v := ⟨hv, hv, rfl, e, e⟩
    refine ⟨?_, blB_of hp (Va.jn_idem hv)⟩
    rw [jnB_va hp, Va.jn_idem hv, if_pos (Va.len hv), ← e]
  · exact absurd (kd_no hV) h
theorem law_errs (L M : List UInt8) : (jnB L M).2 = 0 ∨ (jnB L M).2 = 82 ∨ (jnB L M).2 = 120 := by
  rcases jn_cases L M with ⟨v, w, hp, hl, e⟩ | ⟨v, w, hp, hl, e⟩ | ⟨hp, e⟩ <;> rw [e]
  · exact .inr (.inl rfl)
  · exact .inl rfl
  · exact .inr (.inr rfl)
theorem law_120 {L M : List UInt8} (h : (jnB L M).2 ≠ 0) : blB L M = false := by
  cases e : blB L M with
  | false => rfl
  | true => exact absurd ((blB_iff _ _).1 e).1 h
theorem law_anti {L M : List UInt8} (h : blB L M = true) (h' : blB M L = true) : L = M := by
  rw [blB_iff] at h h'
  rw [law_comm L M] at h'
  exact h'.2.symm.trans h.2
theorem law_up {L M : List UInt8} (h : (jnB L M).2 = 0) : kd (jnB L M).1 = kd L ∧ blB L (jnB L M).1 = true ∧ blB M (jnB L M).1 = true := by
  rcases jn_cases L M with ⟨v, w, hp, hl, e⟩ | ⟨v, w, hp, hl, e⟩ | ⟨hp, e⟩
  · rw [e] at h; exact absurd h (by show ¬ ((82 : Int) = 0); decide)
  · have hok := Va.jn_ok hp.1 hp.2.1 hp.2.2.1 hl
    have hk := Va.jn_kind hp.2.2.1
    have e1 : (jnB L M).1 = (v.jn w).bytes := by rw [e]
    refine ⟨by rw [kd_va hok e1, hk, kd_va hp.1 hp.2.2.2.1], ?_, ?_⟩
    · refine blB_of (v := v) (w := v.jn w) ⟨hp.1, hok, hk.symm, hp.2.2.2.1, e1⟩ ?_
      rw [← Va.jn_assoc hp.1 hp.1 hp.2.1 rfl hp.2.2.1, Va.jn_idem hp.1]
    · refine blB_of (v := w) (w := v.jn w) ⟨hp.2.1, hok, hp.2.2.1.symm.trans hk.symm, hp.2.2.2.2, e1⟩ ?_
      rw [Va.jn_comm hp.1 hp.2.1 hp.2.2.1, ← Va.jn_assoc hp.2.1 hp.2.1 hp.1 rfl hp.2.2.1.symm, Va.jn_idem hp.2.1]
  · rw [e] at h; exact absurd h (by show ¬ ((120 : Int) = 0); decide)
theorem val_of {L M : List UInt8} (h : (jnB L M).2 = 0) : ∃ v w, Pr L M v w ∧ (v.jn w).ok ∧ (jnB L M).1 = (v.jn w).bytes := by
  rcases jn_cases L M with ⟨v, w, hp, hl, e⟩ | ⟨v, w, hp, hl, e⟩ | ⟨hp, e⟩
  · rw [e] at h; exact absurd h (by show ¬ ((82 : Int) = 0); decide)
  · exact ⟨v, w, hp, Va.jn_ok hp.1 hp.2.1 hp.2.2.1 hl, by rw [e]⟩
  · rw [e] at h; exact absurd h (by show ¬ ((120 : Int) = 0); decide)
theorem law_lub {L M N : List UInt8} (h : (jnB L M).2 = 0) (h1 : blB L N = true) (h2 : blB M N = true) : blB (jnB L M).1 N = true := by
  obtain ⟨v, w, hp, hok, e⟩ := val_of h
  obtain ⟨v', z, hp1, e1⟩ := blB_va h1
  obtain ⟨w', z', hp2, e2⟩ := blB_va h2
  obtain rfl := Va.inj hp.1 hp1.1 (hp.2.2.2.1.symm.trans hp1.2.2.2.1)
  obtain rfl := Va.inj hp.2.1 hp2.1 (hp.2.2.2.2.symm.trans hp2.2.2.2.1)
  obtain rfl := Va.inj hp1.2.1 hp2.2.1 (hp1.2.2.2.2.symm.trans hp2.2.2.2.2)
  refine blB_of ⟨hok, hp1.2.1, (Va.jn_kind hp.2.2.1).trans hp1.2.2.1, e, hp1.2.2.2.2⟩ ?_
  rw [Va.jn_assoc hp.1 hp.2.1 hp1.2.1 hp.2.2.1 hp2.2.2.1, e2, e1]
theorem law_assoc {L M N : List UInt8} (h1 : (jnB L M).2 = 0) (h2 : (jnB M N).2 = 0) (h3 : (jnB (jnB L M).1 N).2 = 0) (h4 : (jnB L (jnB M N).1).2 = 0) : (jnB L (jnB M N).1).1 = (jnB (jnB L M).1 N).1 := by
  obtain ⟨v, w, hp, hok, e⟩ := val_of h1
  obtain ⟨w', z, hp2, hok2, e2⟩ := val_of h2
  obtain rfl := Va.inj hp.2.1 hp2.1 (hp.2.2.2.2.symm.trans hp2.2.2.2.1)
  obtain ⟨a, b, hp3, _, e3⟩ := val_of h3
  obtain ⟨c, d, hp4, _, e4⟩ := val_of h4
  obtain rfl := Va.inj hok hp3.1 (e.symm.trans hp3.2.2.2.1)
  obtain rfl := Va.inj hp2.2.1 hp3.2.1 (hp2.2.2.2.2.symm.trans hp3.2.2.2.2)
  obtain rfl := Va.inj hp.1 hp4.1 (hp.2.2.2.1.symm.trans hp4.2.2.2.1)
  obtain rfl := Va.inj hok2 hp4.2.1 (e2.symm.trans hp4.2.2.2.2)
  rw [e3, e4, Va.jn_assoc hp.1 hp.2.1 hp2.2.1 hp.2.2.1 hp2.2.2.1]
end Go.Proofs.YtimddbgnaeeggaaDoor.KD
