import Derived.Test.YtimddbgnaeeggaaDoorRY
import Derived.Test.YtimddbgnaeeggaaDoorRB
import Derived.Test.YtimddbgnaeeggaaDoorRI
namespace Go.Proofs.YtimddbgnaeeggaaDoor.KD
open Go.Eng
set_option maxRecDepth 100000
def Va.on : Va → Bool
  | .flag b => b
  | _ => false
def Va.fl : Va → List Nat
  | .real u => [u]
  | .corner u w => [u, w]
  | _ => []
def Va.ru : Va → List Nat
  | .runes rs => rs
  | _ => []
/-- What a tally's text is. -/
def IsT (L : List UInt8) : Prop := ∃ c, Ct c ∧ L = toldP c
theorem notT {L : List UInt8} (h : ¬ IsVa L) : ¬ IsT L := fun ⟨c, hc, e⟩ => h ⟨.tally c, hc, e⟩
section
variable {ro : Addr → A → Prop}
/-- Apart: of whatever bytes. -/
theorem apartAll (L : List UInt8) {K : V → Hp → Prop} (hK0 : ¬ IsVa L → K (.g [.int .u8 0, .bool false, .nils, .nils, .nils]) [])
    (hK1 : ∀ v : Va, v.ok → L = v.bytes → v.kind ≠ 3 → ∀ fs rs Y X n1 c1 n c mk1 mk, fs = f64s (v.fl ++ Y) → n1 = v.fl.length → rs = i32s (v.ru ++ X) → n = v.ru.length →
      K (.g [.int .u8 (v.kind.toNat : Int), .bool v.on, .slc 0 0 n1 c1, .nils, .slc 1 0 n c]) [.cells fs 23 mk1, .cells rs 21 mk])
    (hK3 : ∀ d, Ct d → L = (Va.tally d).bytes → ∀ rs X n cap mk, rs = cts (pe (encC d 6) ++ X) → n = (pe (encC d 6)).length → cap = n + X.length → K (.g [.int .u8 3, .bool false, .nils, .slc 0 0 n cap, .nils]) [.cells rs 104 mk]) :
    Go.Eng.Fn Tryd.prog ro 32 [.a (.str (bs L))] [] K := by
  match L with
  | [] => exact apartN (hK0 isVa_nil)
  | b :: T =>
    by_cases h40 : 40 ≤ T.length
    · exact apartB (b :: T) (by rw [List.length_cons]; omega) (hK0 (isVa_big (by rw [List.length_cons]; omega)))
    have hT : T.length ≤ 39 := by omega
    by_cases h1 : b = 1
    · subst h1
      exact apart1 T hT hK0 (fun x fs rs Y X n1 c1 n c mk1 mk e hfs hn1 hrs hn => hK1 (.flag x) trivial e (by show (1 : UInt8) ≠ 3; decide) fs rs Y X n1 c1 n c mk1 mk hfs hn1 hrs hn)
    by_cases h2 : b = 2
    · subst h2
      exact apart2 T hT hK0 (fun u fs rs Y X n1 c1 n c mk1 mk hu e hfs hn1 hrs hn => hK1 (.real u) hu e (by show (2 : UInt8) ≠ 3; decide) fs rs Y X n1 c1 n c mk1 mk hfs hn1 hrs hn)
    by_cases h3 : b = 3
    · subst h3
      refine apart3g T hT (fun h => hK0 (fun hV => ?_)) (fun rs X n cap mk h hrs hn hcap => ?_)
      · obtain ⟨c, hc, rfl⟩ := isVa_3 hV
        rw [apC_tally, tallyP_enc hc] at h
        cases h
      · obtain ⟨⟨c, ok⟩, ht⟩ : ∃ q, tallyP T = q := ⟨_, rfl⟩
        rw [apC_tally, ht] at h
        have hok : ok = true := h
        subst hok
        obtain ⟨hc, rfl⟩ := tally_conv ht
        exact hK3 c hc rfl rs X n cap mk hrs hn hcap
    by_cases h4 : b = 4
    · subst h4
      exact apart4 T hT hK0 (fun rl fs rs Y X n1 c1 n c mk1 mk hv hr e hfs hn1 hrs hn => hK1 (.runes rl) ⟨hv, hr, by injection e with _ e; rw [← e]; exact hT⟩ e (by show (4 : UInt8) ≠ 3; decide) fs rs Y X n1 c1 n c mk1 mk hfs hn1 hrs hn)
    by_cases h5 : b = 5
    · subst h5
      exact apart5 T hT hK0 (fun u w fs rs Y X n1 c1 n c mk1 mk hu hw e hfs hn1 hrs hn => hK1 (.corner u w) ⟨hu, hw⟩ e (by show (5 : UInt8) ≠ 3; decide) fs rs Y X n1 c1 n c mk1 mk hfs hn1 hrs hn)
    exact apartH b T hT h1 h2 h3 h4 h5 (hK0 (isVa_head h1 h2 h3 h4 h5))
end
end Go.Proofs.YtimddbgnaeeggaaDoor.KD
