import Derived.Test.YtglbldhineggaaaDZM
import Derived.Test.YtglbldhineggaaaEngM
namespace Go.Proofs.Ytglbldhineggaaa.DG
open Go.Eng
set_option maxRecDepth 100000
def KB : List Sc := [.int .u8]
theorem toU8 {n : Int} (h : IntKind.u8.min ≤ n ∧ n ≤ IntKind.u8.max) : n = ((UInt8.ofNat n.toNat).toNat : Int) := by
  have h0 : (0 : Int) ≤ n := h.1
  have h1 : n ≤ (255 : Int) := h.2
  rw [UInt8.toNat_ofNat']
  omega
def byteOf : List A → UInt8
  | .int .u8 n :: _ => UInt8.ofNat n.toNat
  | _ => 0
theorem src_of {W : World} {y : A} {len cap : Nat} {G : Nat → List A} (h : IsSl W 1 KB y len cap G) : ∃ L : List UInt8, Src (roOf W) y L ∧ L.length = len := by
  have h0 := h
  rcases h with ⟨rfl, rfl, _⟩ | ⟨p, rfl, hl, _, _⟩
  · exact ⟨[], .inl ⟨rfl, rfl⟩, rfl⟩
  · refine ⟨(List.range len).map fun i => byteOf (G i), .inr ⟨p, cap, by simp, fun j y hj => ?_⟩, by simp⟩
    have hjl : j < len := by
      have := (List.getElem?_eq_some_iff.1 hj).1
      simpa using this
    obtain ⟨hf, hr⟩ := h0.get hjl
    rw [u8s_get (by simpa using hjl)] at hj
    injection hj with hj
    obtain ⟨n, ys, e, hn, hf⟩ := Fits.int hf
    have := hr 0 (.int .u8 n) (by rw [e]; rfl)
    rw [Nat.mul_one, Nat.add_zero] at this
    rw [← hj]
    simp only [List.getElem_map, List.getElem_range, e, byteOf]
    rw [← toU8 hn]
    exact this
def KH : List Sd := [.sc (.int .i64), .sc (.int .i64), .sc (.int .i64), .sl 1 KB]
theorem top7 (W : World) (y : A) (len cap : Nat) (G : Nat → List A) (hG : IsSlD W 1048576 4 KH y len cap G) : Go.Eng.Fn Try.prog (roOf W) 7 [.a y] [] (fun v _ => v = .a (.bool true)) := by
  rcases hG with ⟨rfl, _⟩ | ⟨p, rfl, hl, hc, hall⟩
  · exact hashes7n
  · refine hashes7 p len cap (fun i hi => ?_) (by omega)
    obtain ⟨hf, _, hr⟩ := hall i hi
    unfold KH at hf
    obtain ⟨k, r0, e0, _, f0⟩ := FitsD.int hf
    obtain ⟨a, r1, rfl, _, f1⟩ := FitsD.int f0
    obtain ⟨t, r2, rfl, _, f2⟩ := FitsD.int f1
    obtain ⟨x, r3, l, c, F, rfl, hx, hcap, f3⟩ := FitsD.sl f2
    obtain rfl := FitsD.nil f3
    obtain ⟨L, hL, hLl⟩ := src_of hx
    have hlc : l ≤ c := by
      rcases hx with ⟨_, h1, h2⟩ | ⟨_, _, h1, _⟩
      · omega
      · exact h1
    refine ⟨k, a, t, x, L, ?_, ?_, ?_, ?_, hL, by omega⟩ <;> rw [addr_add_add]
    · exact hr 0 _ (by rw [e0]; rfl)
    · exact hr 1 _ (by rw [e0]; rfl)
    · exact hr 2 _ (by rw [e0]; rfl)
    · exact hr 3 _ (by rw [e0]; rfl)
end Go.Proofs.Ytglbldhineggaaa.DG
