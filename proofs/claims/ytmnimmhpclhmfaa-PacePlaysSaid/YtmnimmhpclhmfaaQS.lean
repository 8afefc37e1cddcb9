import Derived.Test.YtmnimmhpclhmfaaPS
namespace Go.Proofs.Ytmnimmhpclhmfaa.PC
open Go.Eng
set_option maxRecDepth 100000
theorem MR.dbl {x : Pt} {lo hi : Nat} (h : MR x lo hi) (d : Int) : MR { x with dbl := d } lo hi := by
  cases h with
  | new h l u => exact .new h l u
  | old h l m u s hl hm hu hs h1 h2 => exact .old h l m u s hl hm hu hs h1 h2
theorem Good.dbl {x : Pt} (h : Good x) (d : Int) : Good { x with dbl := d } := by
  obtain ⟨lo, hi, h⟩ := h
  exact ⟨lo, hi, h.dbl d⟩
theorem Good.p0 : Good p0 := ⟨9218868437227405312, 18442240474082181120, .new rfl (by decide) (by decide)⟩
theorem heard_dbl {x y : Pt} {t : Nat} {d : Int} (h : HeardR { x with dbl := d } t y) : HeardR x t y := ⟨h.heard, h.dbl, h.ended, h.whn, h.share, h.first, h.later⟩
theorem wt_dbl (x : Pt) (d : Int) (k : Nat) : wt { x with dbl := d } k = wt x k := by unfold wt wb; rfl
theorem wt_p0 : wt p0 0 = 8 := by
  unfold wt wb
  rw [ldx_0]
  exact ticks_8
theorem wb_ok {x : Pt} (hg : Good x) : rung (wb x) ≤ bInf := by
  cases hh : x.heard with
  | false => exact wb_le hg ⟨_, .inl ⟨hh, rfl⟩⟩
  | true =>
    obtain ⟨m, hm⟩ : ∃ m, Ans (FloatKind.f64.format.mul 4616189618054758400 x.stray) m := by
      cases ho : FloatKind.f64.format.mul 4616189618054758400 x.stray with
      | some m => exact ⟨m, .inl rfl⟩
      | none => exact ⟨9221120237041090561, .inr ⟨rfl, by unfold isNan; decide, by decide⟩⟩
    obtain ⟨b, hb⟩ : ∃ m', Ans (FloatKind.f64.format.add x.mean m) m' := by
      cases ho : FloatKind.f64.format.add x.mean m with
      | some m => exact ⟨m, .inl rfl⟩
      | none => exact ⟨9221120237041090561, .inr ⟨rfl, by unfold isNan; decide, by decide⟩⟩
    exact wb_le hg ⟨b, .inr ⟨hh, m, hm, hb⟩⟩
theorem wt_in {x : Pt} (hg : Good x) (k : Nat) : 1 ≤ wt x k ∧ wt x k ≤ 1000 := by
  unfold wt
  exact (ticks_lt (ldx_le (wb_ok hg) k)).1
theorem wt_mono {x : Pt} (hg : Good x) (k : Nat) : wt x k ≤ wt x (k + 1) := by
  unfold wt
  exact ticks_mono (ldx_mono (wb_ok hg) k) (ldx_le (wb_ok hg) (k + 1))
theorem took_one : took 4607182418800017408 = true := by unfold took fin fLtK; decide +kernel
theorem three {x x' : Pt} {k : Nat} (h : [p0, x, p0][k]? = some x') (e : (2 : Int) = ((k + 1 : Nat) : Int)) : k = 1 ∧ x = x' := by
  obtain rfl : k = 1 := by omega
  exact ⟨rfl, by simpa using h⟩
theorem dbls {x : Pt} {d : Nat} (h : x.dbl = d) (h2 : d ≤ 10) : ∀ z ∈ [p0, x, p0], 0 ≤ z.dbl ∧ z.dbl ≤ 10 := by
  intro z hz
  simp only [List.mem_cons, List.not_mem_nil, or_false] at hz
  rcases hz with rfl | rfl | rfl
  · exact ⟨by decide, by decide⟩
  · omega
  · exact ⟨by decide, by decide⟩
theorem goods {x : Pt} (h : Good x) : ∀ z ∈ [p0, x, p0], Good z := by
  intro z hz
  simp only [List.mem_cons, List.not_mem_nil, or_false] at hz
  rcases hz with rfl | rfl | rfl
  · exact Good.p0
  · exact h
  · exact Good.p0
theorem MR.start : MR p0 9218868437227405312 18442240474082181120 := .new rfl (by decide) (by decide)
theorem same_self (a : Nat) : same a a = true := by
  unfold same; simp
def KY : List Sc := [.int .i64, .int .i64, .int .i64, .int .u64, .int .i64, .int .i64]
end Go.Proofs.Ytmnimmhpclhmfaa.PC
