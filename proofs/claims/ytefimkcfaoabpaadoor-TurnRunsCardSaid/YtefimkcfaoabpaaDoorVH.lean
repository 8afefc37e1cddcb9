import Derived.Test.YtefimkcfaoabpaaDoorVD
import Derived.Test.YtefimkcfaoabpaaDoorVG
import Derived.Test.YtefimkcfaoabpaaDoorIU
import Derived.Test.YtefimkcfaoabpaaDoorTF
namespace Go.Proofs.YtefimkcfaoabpaaDoor.TA
open Go.Eng
set_option maxRecDepth 100000
section
variable {ro : Addr → A → Prop}
set_option maxHeartbeats 1000000 in
theorem event1 (hI : Rep ro ita) (T w r : Int) (asked done taken : Nat) (number : Int) (over : Bool) (last : ByteArray) (t : Int) (bd : ByteArray) (at_ go se : Int) (k0 k1 k2 k3 k4 k5 k6 : Int) (k7 : Bool) (k8 : ByteArray) (hr1 : 1 ≤ r) (hr : r ≤ 100) (L : List Fm) (G : Good (rp ita) r T asked done taken number over last bd at_ k0 k1 k2 k3 k4 k5 k6 k7 k8 L) (n cap : Nat) (cs : List A) (mk : Bool) (hin : In L cs cap) (hn : n = L.length) (hn9 : n ≤ 90000) (ha9 : asked ≤ 4000) (kd i : Int) (asked0 n0 : Nat) (ha0 : asked ≤ asked0) (hn0 : n ≤ n0) {K : V → Hp → Prop}
    (hK : ∀ (asked done taken : Nat) (number : Int) (over : Bool) (last : ByteArray) (t : Int) (bd : ByteArray) (at_ go se : Int) (k0 k1 k2 k3 k4 k5 k6 : Int) (k7 : Bool) (k8 : ByteArray) (L' : List Fm) (cap : Nat) (cs : List A) (mk : Bool), Good (rp ita) r T asked done taken number over last bd at_ k0 k1 k2 k3 k4 k5 k6 k7 k8 L' → In L' cs cap → L'.length ≤ n0 + 1 → asked ≤ asked0 + 1 → K (.a (.bool true)) (HL T w r asked done taken number over last t bd at_ go se k0 k1 k2 k3 k4 k5 k6 k7 k8 3 L'.length cap [.cells cs 44 mk]))
    (hK2 : ∀ (asked done taken : Nat) (number : Int) (over : Bool) (last : ByteArray) (t : Int) (bd : ByteArray) (at_ go se : Int) (k0 k1 k2 k3 k4 k5 k6 : Int) (k7 : Bool) (k8 : ByteArray) (L' : List Fm) (cap2 : Nat) (cs2 : List A) (mk2 : Bool), Good (rp ita) r T asked done taken number over last bd at_ k0 k1 k2 k3 k4 k5 k6 k7 k8 L' → In L' cs2 cap2 → L'.length ≤ n0 + 1 → asked ≤ asked0 + 1 → K (.a (.bool true)) (HL T w r asked done taken number over last t bd at_ go se k0 k1 k2 k3 k4 k5 k6 k7 k8 4 L'.length cap2 [.cells cs 44 mk, .cells cs2 44 mk2])) :
    Go.Eng.Fn Tryd.prog ro 7 [.a (.ptr 0 0), .g [.int .i64 kd, .int .i64 i], .a (.int .i64 r)] (HL T w r asked done taken number over last t bd at_ go se k0 k1 k2 k3 k4 k5 k6 k7 k8 3 n cap [.cells cs 44 mk]) K := by
  by_cases h1 : kd = 1
  · subst h1
    exact evAsk T w r asked done taken number over last t bd at_ go se k0 k1 k2 k3 k4 k5 k6 k7 k8 hI hr1 hr L G n cap cs mk hin hn hn9 ha9 i asked0 ha0 (fun _ _ _ _ _ _ _ L' cap cs mk G' h1 h2 h3 => hK _ _ _ _ _ _ _ _ _ _ _ _ _ _ _ _ _ _ _ _ L' cap cs mk G' h1 (by omega) h3) (fun _ _ _ _ _ _ _ L' cap2 cs2 G' h1 h2 h3 => hK2 _ _ _ _ _ _ _ _ _ _ _ _ _ _ _ _ _ _ _ _ L' cap2 cs2 false G' h1 (by omega) h3)
  by_cases h2 : kd = 2
  · subst h2
    exact evTick T w r asked done taken number over last t bd at_ go se k0 k1 k2 k3 k4 k5 k6 k7 k8 hr1 hr L G n cap cs mk hin hn hn9 ha9 i (fun _ _ _ _ _ L' cap cs mk G' h1 h2 => hK _ _ _ _ _ _ _ _ _ _ _ _ _ _ _ _ _ _ _ _ L' cap cs mk G' h1 (by omega) (by omega)) (fun _ _ _ _ _ L' cap2 cs2 G' h1 h2 => hK2 _ _ _ _ _ _ _ _ _ _ _ _ _ _ _ _ _ _ _ _ L' cap2 cs2 false G' h1 (by omega) (by omega))
  have c1 : (kd == 1) = false := by simp; omega
  have c2 : (kd == 2) = false := by simp; omega
  rcases Nat.eq_zero_or_pos n with h0 | h0
  · have hk := hK asked done taken number over last t bd at_ go se k0 k1 k2 k3 k4 k5 k6 k7 k8 L cap cs mk G hin (by omega) (by omega)
    rw [← hn] at hk
    subst h0
    exact evIdle T w r asked done taken number over last t bd at_ go se k0 k1 k2 k3 k4 k5 k6 k7 k8 cap cs mk hin.pl kd i c1 c2 hk
  by_cases h5 : kd = 5
  · subst h5
    have hx : ∀ x ∈ L, Good (rp ita) r T asked done taken number over last bd at_ k0 k1 k2 k3 k4 k5 k6 k7 k8 (L ++ [x]) := fun x hx => G.sub (fun y hy => by
      rcases List.mem_append.1 hy with hy | hy
      · exact hy
      · rw [List.mem_singleton.1 hy]; exact hx)
    have hl : ∀ x : Fm, (L ++ [x]).length = n + 1 := fun x => by rw [hn]; simp
    refine evCopy T w r asked done taken number over last t bd at_ go se k0 k1 k2 k3 k4 k5 k6 k7 k8 L n cap cs mk hin hn h0 hn9 i ?_ (fun x cap cs h1 h2 => ?_) (fun x cap2 cs2 h1 h2 => ?_)
    · have hk := hK asked done taken number over last t bd at_ go se k0 k1 k2 k3 k4 k5 k6 k7 k8 L cap cs mk G hin (by omega) (by omega)
      rw [← hn] at hk
      exact hk
    · have hk := hK asked done taken number over last t bd at_ go se k0 k1 k2 k3 k4 k5 k6 k7 k8 (L ++ [x]) cap cs mk (hx x h1) h2 (by rw [hl]; omega) (by omega)
      rw [hl] at hk
      exact hk
    · have hk := hK2 asked done taken number over last t bd at_ go se k0 k1 k2 k3 k4 k5 k6 k7 k8 (L ++ [x]) cap2 cs2 false (hx x h1) h2 (by rw [hl]; omega) (by omega)
      rw [hl] at hk
      exact hk
  by_cases h34 : kd = 3 ∨ kd = 4
  · exact evLeave T w r asked done taken number over last t bd at_ go se k0 k1 k2 k3 k4 k5 k6 k7 k8 L n cap cs mk hin hn h0 hn9 ha9 hI G kd i h34 (fun _ _ _ _ _ _ _ _ _ _ _ _ _ L' cap2 cs2 mk2 G' h1 h2 => hK2 _ _ _ _ _ _ _ _ _ _ _ _ _ _ _ _ _ _ _ _ L' cap2 cs2 mk2 G' h1 (by omega) (by omega))
  · have hk := hK asked done taken number over last t bd at_ go se k0 k1 k2 k3 k4 k5 k6 k7 k8 L cap cs mk G hin (by omega) (by omega)
    rw [← hn] at hk
    exact evNone T w r asked done taken number over last t bd at_ go se k0 k1 k2 k3 k4 k5 k6 k7 k8 L n cap cs mk hin hn h0 hn9 kd i c1 c2 (by simp; omega) (by simp; omega) (by simp; omega) hk
end
end Go.Proofs.YtefimkcfaoabpaaDoor.TA
