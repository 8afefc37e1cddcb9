/- The engine, part 9: an operation, a list of them, a region in whatever order. -/
import Derived.Test.YtkggpkgnkppceaaEng8
set_option linter.unusedVariables false
namespace Go.Eng
section opers
variable {c : Ctx} {o : Oper} {β : Num} {F : Frm} {H : Hp} {a : Act} {w : World} {K : V → Hp → Prop}

/-- Operations that yield one value and leave the world alone. 'pure': whatever the memory holds. -/
def kindOf (P : Program) (F : Frm) (o : Oper) : Bool × Bool := match o.op with
  | .move _ | .assign _ | .pick _ _ _ | .fieldAddr _ _ _ | .field _ _ _ | .nilCheck _ | .indexAddr _ _ _ | .index _ _ _ | .extract _ _ | .unOp _ _ _
  | .build _ _ | .slice _ _ _ _ _ | .makeFunc _ _ _ | .sliceToArrayPointer _ _ => (true, true)
  | .load _ _ => (true, false)
  | .convert _ d _ => (convStill P d, false)
  | .binOp op _ x y _ => match rho F x, rho F y with
    | some u, some v => (!fltArith op u v, !fltArith op u v)
    | _, _ => (false, false)
  | .call c => match c.callee with
    | .builtin b => (stillB b, stillB b)
    | _ => (false, false)
  | _ => (false, false)

theorem opx_pure (h : opx c.P c.ro F H o K) (hs : (kindOf c.P F o).2 = true) : Pure c o F H K := by
  unfold opx at h
  split at h
  case h_1 x ho => exact op_move (.inl ho) h
  case h_2 x ho => exact op_move (.inr ho) h
  case h_3 x y z ho =>
    split at h
    · rename_i t hx; exact op_pick ho hx h
    · exact h.elim
  case h_6 t ps ho =>
    split at h
    · rename_i fs zs l hu hz hp
      split at h
      · rename_i pl hpl; exact op_build_struct ho hu hz hp hpl h
      · exact h.elim
    · rename_i n e zs l hu hz hp
      split at h
      · rename_i q hq; exact op_build_array ho hu hz hp hq h
      · exact h.elim
    · exact h.elim
  case h_10 x ho =>
    split at h
    · rename_i i off hx; exact op_nilCheck_ptr ho hx h
    · rename_i p hx; exact op_nilCheck_rptr ho hx h
    · exact h.elim
  case h_11 op t x y u ho =>
    split at h
    · rename_i p q hx hy
      refine op_bin_still ho hx hy ?_ h
      simp only [kindOf, ho, hx, hy] at hs
      simpa using hs
    · exact h.elim
  case h_12 op t x ho =>
    split at h
    · rename_i y hx; exact op_un ho hx h
    · exact h.elim
  case h_14 t x ho =>
    split at h
    · rename_i hu hx; exact op_toPtr_slc ho hu hx h
    · rename_i hu hx; exact op_toPtr_rslc ho hu hx h
    · exact h.elim
  case h_15 f first caps ho =>
    split at h
    · rename_i l h1 h2; exact op_makeFunc ho h1 h2 h
    · exact h.elim
  case h_17 t x lo hi mx ho =>
    obtain ⟨v, hv, h⟩ := optx_elim h
    exact op_slice ho hv h
  case h_18 t x f ho => exact op_field ho h
  case h_19 t x f ho =>
    split at h
    · rename_i cs fs hx hu
      split at h
      · rename_i g hg; exact op_fieldOf ho hx hu hg h
      · exact h.elim
    · exact h.elim
  case h_20 t x i ho =>
    split at h
    · rename_i v k n hx hi; exact op_indexAddr ho hx hi h
    · exact h.elim
  case h_21 t x i ho =>
    split at h
    · rename_i v k n hx hi; exact op_index ho hx hi h
    · exact h.elim
  case h_22 x i ho =>
    split at h
    · rename_i xs hx; exact op_extract ho hx h
    · exact h.elim
  case h_23 cl ho =>
    obtain ⟨callee, args, ts⟩ := cl
    unfold callx at h
    split at h
    · rename_i f args' hc hr
      simp only at hc
      subst hc
      simp [kindOf, ho] at hs
    · rename_i b args' hc hr
      simp only at hc
      subst hc
      simp only [kindOf, ho] at hs
      exact op_builtin_still ho hr hs h
    · exact h.elim
  all_goals (first | exact h.elim | (rename_i ho; simp [kindOf, ho] at hs))

theorem opx_still (h : opx c.P c.ro F H o K) (hs : (kindOf c.P F o).1 = true) : Still c o F H K := by
  by_cases hp : (kindOf c.P F o).2 = true
  · exact (opx_pure h hp).still
  · cases ho : o.op
    case load t x =>
      simp only [opx, ho] at h
      exact op_load ho h
    case convert s d x =>
      simp only [kindOf, ho] at hs
      simp only [opx, ho] at h
      split at h
      · rename_i y hx; exact op_conv_still ho hs hx h
      · exact h.elim
    case binOp op t x y u =>
      simp only [kindOf, ho] at hs hp
      cases hx : rho F x <;> simp only [hx] at hs hp <;> try (cases hs; done)
      cases hy : rho F y <;> simp only [hy] at hs hp <;> try (cases hs; done)
      exact absurd hs hp
    case call cl =>
      simp only [kindOf, ho] at hs hp
      cases hc : cl.callee <;> simp only [hc] at hs hp <;> first
        | (cases hs; done)
        | exact absurd hs hp
    all_goals (simp [kindOf, ho] at hs hp)

theorem opx_ok (h : opx c.P c.ro F H o K) : OpOK c o F H K := by
  by_cases hs : (kindOf c.P F o).1 = true
  · exact (opx_still h hs).ok
  unfold opx at h
  split at h
  case h_4 t ho => exact op_alloc ho h
  case h_5 t x ho =>
    split at h
    · rename_i v hx; exact op_box ho hx h
    · exact h.elim
  case h_7 t n ps ho =>
    split at h
    · rename_i e l hu hp
      split at h
      · rename_i q zs hq hz; exact op_buildSlice ho hu hp hq hz h
      · exact h.elim
    · exact h.elim
  case h_9 t x y ho =>
    split at h
    · rename_i p v hx hy; exact op_store ho hx hy h
    · exact h.elim
  case h_11 op t x y u ho =>
    split at h
    · rename_i p q hx hy; exact op_bin ho hx hy h
    · exact h.elim
  case h_13 s d x ho =>
    split at h
    · rename_i y hx; exact op_conv ho hx h
    · exact h.elim
  case h_16 t l k ho =>
    split at h
    · rename_i l' k' hl hk; exact op_makeSlice ho hl hk h
    · exact h.elim
  case h_23 cl ho =>
    obtain ⟨callee, args, ts⟩ := cl
    unfold callx at h
    split at h
    · rename_i f args' hc hr
      simp only at hc
      subst hc
      split at h
      · rename_i g caps hf
        split at h
        · rename_i fn hfn
          split at h
          · rename_i hbody; exact op_call ho hr hf hfn hbody h
          · rename_i hbody; exact op_ext ho hr hf hfn hbody h
          · exact h.elim
        · exact h.elim
      · exact h.elim
    · rename_i b args' hc hr
      simp only at hc
      subst hc
      exact op_builtin ho hr h
    · exact h.elim
  case h_24 t x ho =>
    split at h
    · rename_i s hu hx; exact op_range ho hu hx h
    · exact h.elim
  case h_25 x ho =>
    split at h
    · rename_i i hx
      split at h
      · rename_i s pos hb; exact op_next ho hx hb h
      · exact h.elim
    · exact h.elim
  all_goals (first | exact h.elim | (rename_i ho; simp [kindOf, ho] at hs))
end opers
end Go.Eng
