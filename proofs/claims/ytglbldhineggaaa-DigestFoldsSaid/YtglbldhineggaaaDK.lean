import Derived.Test.YtglbldhineggaaaDO
import Derived.Test.YtglbldhineggaaaDH
namespace Go.Proofs.Ytglbldhineggaaa.DG
open Go.Eng
set_option maxRecDepth 100000
@[irreducible] def abcB : List UInt8 := [97, 98, 99, 128, 0, 0, 0, 0, 0, 0, 0, 0, 0, 0, 0, 0, 0, 0, 0, 0, 0, 0, 0, 0, 0, 0, 0, 0, 0, 0, 0, 0, 0, 0, 0, 0, 0, 0, 0, 0, 0, 0, 0, 0, 0, 0, 0, 0, 0, 0, 0, 0, 0, 0, 0, 0, 0, 0, 0, 0, 0, 0, 0, 24]
theorem abcW0 : wd abcB 0 = 1633837952 := by rw [wd_lt (by decide)]; decide +kernel
theorem abcW1 : wd abcB 1 = 0 := by rw [wd_lt (by decide)]; decide +kernel
theorem abcW2 : wd abcB 2 = 0 := by rw [wd_lt (by decide)]; decide +kernel
theorem abcW3 : wd abcB 3 = 0 := by rw [wd_lt (by decide)]; decide +kernel
theorem abcW4 : wd abcB 4 = 0 := by rw [wd_lt (by decide)]; decide +kernel
theorem abcW5 : wd abcB 5 = 0 := by rw [wd_lt (by decide)]; decide +kernel
theorem abcW6 : wd abcB 6 = 0 := by rw [wd_lt (by decide)]; decide +kernel
theorem abcW7 : wd abcB 7 = 0 := by rw [wd_lt (by decide)]; decide +kernel
theorem abcW8 : wd abcB 8 = 0 := by rw [wd_lt (by decide)]; decide +kernel
theorem abcW9 : wd abcB 9 = 0 := by rw [wd_lt (by decide)]; decide +kernel
theorem abcW10 : wd abcB 10 = 0 := by rw [wd_lt (by decide)]; decide +kernel
theorem abcW11 : wd abcB 11 = 0 := by rw [wd_lt (by decide)]; decide +kernel
theorem abcW12 : wd abcB 12 = 0 := by rw [wd_lt (by decide)]; decide +kernel
theorem abcW13 : wd abcB 13 = 0 := by rw [wd_lt (by decide)]; decide +kernel
theorem abcW14 : wd abcB 14 = 0 := by rw [wd_lt (by decide)]; decide +kernel
theorem abcW15 : wd abcB 15 = 24 := by rw [wd_lt (by decide)]; decide +kernel
theorem abcW16 : wd abcB 16 = 1633837952 := by rw [wd_ge (by decide), show 16 - 16 = 0 from rfl, show 16 - 15 = 1 from rfl, show 16 - 7 = 9 from rfl, show 16 - 2 = 14 from rfl, abcW0, abcW1, abcW9, abcW14]; decide +kernel
theorem abcW17 : wd abcB 17 = 983040 := by rw [wd_ge (by decide), show 17 - 16 = 1 from rfl, show 17 - 15 = 2 from rfl, show 17 - 7 = 10 from rfl, show 17 - 2 = 15 from rfl, abcW1, abcW2, abcW10, abcW15]; decide +kernel
theorem abcW18 : wd abcB 18 = 2108187653 := by rw [wd_ge (by decide), show 18 - 16 = 2 from rfl, show 18 - 15 = 3 from rfl, show 18 - 7 = 11 from rfl, show 18 - 2 = 16 from rfl, abcW2, abcW3, abcW11, abcW16]; decide +kernel
theorem abcW19 : wd abcB 19 = 1610613702 := by rw [wd_ge (by decide), show 19 - 16 = 3 from rfl, show 19 - 15 = 4 from rfl, show 19 - 7 = 12 from rfl, show 19 - 2 = 17 from rfl, abcW3, abcW4, abcW12, abcW17]; decide +kernel
theorem abcW20 : wd abcB 20 = 1050508152 := by rw [wd_ge (by decide), show 20 - 16 = 4 from rfl, show 20 - 15 = 5 from rfl, show 20 - 7 = 13 from rfl, show 20 - 2 = 18 from rfl, abcW4, abcW5, abcW13, abcW18]; decide +kernel
theorem abcW21 : wd abcB 21 = 25426944 := by rw [wd_ge (by decide), show 21 - 16 = 5 from rfl, show 21 - 15 = 6 from rfl, show 21 - 7 = 14 from rfl, show 21 - 2 = 19 from rfl, abcW5, abcW6, abcW14, abcW19]; decide +kernel
theorem abcW22 : wd abcB 22 = 316456923 := by rw [wd_ge (by decide), show 22 - 16 = 6 from rfl, show 22 - 15 = 7 from rfl, show 22 - 7 = 15 from rfl, show 22 - 2 = 20 from rfl, abcW6, abcW7, abcW15, abcW20]; decide +kernel
theorem abcW23 : wd abcB 23 = 3806512014 := by rw [wd_ge (by decide), show 23 - 16 = 7 from rfl, show 23 - 15 = 8 from rfl, show 23 - 7 = 16 from rfl, show 23 - 2 = 21 from rfl, abcW7, abcW8, abcW16, abcW21]; decide +kernel
theorem abcW24 : wd abcB 24 = 3357629466 := by rw [wd_ge (by decide), show 24 - 16 = 8 from rfl, show 24 - 15 = 9 from rfl, show 24 - 7 = 17 from rfl, show 24 - 2 = 22 from rfl, abcW8, abcW9, abcW17, abcW22]; decide +kernel
theorem abcW25 : wd abcB 25 = 3073800610 := by rw [wd_ge (by decide), show 25 - 16 = 9 from rfl, show 25 - 15 = 10 from rfl, show 25 - 7 = 18 from rfl, show 25 - 2 = 23 from rfl, abcW9, abcW10, abcW18, abcW23]; decide +kernel
theorem abcW26 : wd abcB 26 = 3854317833 := by rw [wd_ge (by decide), show 26 - 16 = 10 from rfl, show 26 - 15 = 11 from rfl, show 26 - 7 = 19 from rfl, show 26 - 2 = 24 from rfl, abcW10, abcW11, abcW19, abcW24]; decide +kernel
theorem abcW27 : wd abcB 27 = 845560923 := by rw [wd_ge (by decide), show 27 - 16 = 11 from rfl, show 27 - 15 = 12 from rfl, show 27 - 7 = 20 from rfl, show 27 - 2 = 25 from rfl, abcW11, abcW12, abcW20, abcW25]; decide +kernel
theorem abcW28 : wd abcB 28 = 2636160359 := by rw [wd_ge (by decide), show 28 - 16 = 12 from rfl, show 28 - 15 = 13 from rfl, show 28 - 7 = 21 from rfl, show 28 - 2 = 26 from rfl, abcW12, abcW13, abcW21, abcW26]; decide +kernel
theorem abcW29 : wd abcB 29 = 3968280267 := by rw [wd_ge (by decide), show 29 - 16 = 13 from rfl, show 29 - 15 = 14 from rfl, show 29 - 7 = 22 from rfl, show 29 - 2 = 27 from rfl, abcW13, abcW14, abcW22, abcW27]; decide +kernel
theorem abcW30 : wd abcB 30 = 1881225380 := by rw [wd_ge (by decide), show 30 - 16 = 14 from rfl, show 30 - 15 = 15 from rfl, show 30 - 7 = 23 from rfl, show 30 - 2 = 28 from rfl, abcW14, abcW15, abcW23, abcW28]; decide +kernel
theorem abcW31 : wd abcB 31 = 3552024379 := by rw [wd_ge (by decide), show 31 - 16 = 15 from rfl, show 31 - 15 = 16 from rfl, show 31 - 7 = 24 from rfl, show 31 - 2 = 29 from rfl, abcW15, abcW16, abcW24, abcW29]; decide +kernel
theorem abcW32 : wd abcB 32 = 2482346367 := by rw [wd_ge (by decide), show 32 - 16 = 16 from rfl, show 32 - 15 = 17 from rfl, show 32 - 7 = 25 from rfl, show 32 - 2 = 30 from rfl, abcW16, abcW17, abcW25, abcW30]; decide +kernel
theorem abcW33 : wd abcB 33 = 996719219 := by rw [wd_ge (by decide), show 33 - 16 = 17 from rfl, show 33 - 15 = 18 from rfl, show 33 - 7 = 26 from rfl, show 33 - 2 = 31 from rfl, abcW17, abcW18, abcW26, abcW31]; decide +kernel
theorem abcW34 : wd abcB 34 = 2952069057 := by rw [wd_ge (by decide), show 34 - 16 = 18 from rfl, show 34 - 15 = 19 from rfl, show 34 - 7 = 27 from rfl, show 34 - 2 = 32 from rfl, abcW18, abcW19, abcW27, abcW32]; decide +kernel
theorem abcW35 : wd abcB 35 = 4043988066 := by rw [wd_ge (by decide), show 35 - 16 = 19 from rfl, show 35 - 15 = 20 from rfl, show 35 - 7 = 28 from rfl, show 35 - 2 = 33 from rfl, abcW19, abcW20, abcW28, abcW33]; decide +kernel
theorem abcW36 : wd abcB 36 = 176896406 := by rw [wd_ge (by decide), show 36 - 16 = 20 from rfl, show 36 - 15 = 21 from rfl, show 36 - 7 = 29 from rfl, show 36 - 2 = 34 from rfl, abcW20, abcW21, abcW29, abcW34]; decide +kernel
theorem abcW37 : wd abcB 37 = 1924104970 := by rw [wd_ge (by decide), show 37 - 16 = 21 from rfl, show 37 - 15 = 22 from rfl, show 37 - 7 = 30 from rfl, show 37 - 2 = 35 from rfl, abcW21, abcW22, abcW30, abcW35]; decide +kernel
theorem abcW38 : wd abcB 38 = 2483675966 := by rw [wd_ge (by decide), show 38 - 16 = 22 from rfl, show 38 - 15 = 23 from rfl, show 38 - 7 = 31 from rfl, show 38 - 2 = 36 from rfl, abcW22, abcW23, abcW31, abcW36]; decide +kernel
theorem abcW39 : wd abcB 39 = 610538786 := by rw [wd_ge (by decide), show 39 - 16 = 23 from rfl, show 39 - 15 = 24 from rfl, show 39 - 7 = 32 from rfl, show 39 - 2 = 37 from rfl, abcW23, abcW24, abcW32, abcW37]; decide +kernel
theorem abcW40 : wd abcB 40 = 2672279444 := by rw [wd_ge (by decide), show 40 - 16 = 24 from rfl, show 40 - 15 = 25 from rfl, show 40 - 7 = 33 from rfl, show 40 - 2 = 38 from rfl, abcW24, abcW25, abcW33, abcW38]; decide +kernel
theorem abcW41 : wd abcB 41 = 4037431130 := by rw [wd_ge (by decide), show 41 - 16 = 25 from rfl, show 41 - 15 = 26 from rfl, show 41 - 7 = 34 from rfl, show 41 - 2 = 39 from rfl, abcW25, abcW26, abcW34, abcW39]; decide +kernel
theorem abcW42 : wd abcB 42 = 1042573945 := by rw [wd_ge (by decide), show 42 - 16 = 26 from rfl, show 42 - 15 = 27 from rfl, show 42 - 7 = 35 from rfl, show 42 - 2 = 40 from rfl, abcW26, abcW27, abcW35, abcW40]; decide +kernel
theorem abcW43 : wd abcB 43 = 657669027 := by rw [wd_ge (by decide), show 43 - 16 = 27 from rfl, show 43 - 15 = 28 from rfl, show 43 - 7 = 36 from rfl, show 43 - 2 = 41 from rfl, abcW27, abcW28, abcW36, abcW41]; decide +kernel
theorem abcW44 : wd abcB 44 = 206005234 := by rw [wd_ge (by decide), show 44 - 16 = 28 from rfl, show 44 - 15 = 29 from rfl, show 44 - 7 = 37 from rfl, show 44 - 2 = 42 from rfl, abcW28, abcW29, abcW37, abcW42]; decide +kernel
theorem abcW45 : wd abcB 45 = 2215296807 := by rw [wd_ge (by decide), show 45 - 16 = 29 from rfl, show 45 - 15 = 30 from rfl, show 45 - 7 = 38 from rfl, show 45 - 2 = 43 from rfl, abcW29, abcW30, abcW38, abcW43]; decide +kernel
theorem abcW46 : wd abcB 46 = 2049510749 := by rw [wd_ge (by decide), show 46 - 16 = 30 from rfl, show 46 - 15 = 31 from rfl, show 46 - 7 = 39 from rfl, show 46 - 2 = 44 from rfl, abcW30, abcW31, abcW39, abcW44]; decide +kernel
theorem abcW47 : wd abcB 47 = 106709978 := by rw [wd_ge (by decide), show 47 - 16 = 31 from rfl, show 47 - 15 = 32 from rfl, show 47 - 7 = 40 from rfl, show 47 - 2 = 45 from rfl, abcW31, abcW32, abcW40, abcW45]; decide +kernel
theorem abcW48 : wd abcB 48 = 4215179723 := by rw [wd_ge (by decide), show 48 - 16 = 32 from rfl, show 48 - 15 = 33 from rfl, show 48 - 7 = 41 from rfl, show 48 - 2 = 46 from rfl, abcW32, abcW33, abcW41, abcW46]; decide +kernel
theorem abcW49 : wd abcB 49 = 3430291419 := by rw [wd_ge (by decide), show 49 - 16 = 33 from rfl, show 49 - 15 = 34 from rfl, show 49 - 7 = 42 from rfl, show 49 - 2 = 47 from rfl, abcW33, abcW34, abcW42, abcW47]; decide +kernel
theorem abcW50 : wd abcB 50 = 3118885940 := by rw [wd_ge (by decide), show 50 - 16 = 34 from rfl, show 50 - 15 = 35 from rfl, show 50 - 7 = 43 from rfl, show 50 - 2 = 48 from rfl, abcW34, abcW35, abcW43, abcW48]; decide +kernel
theorem abcW51 : wd abcB 51 = 2845390439 := by rw [wd_ge (by decide), show 51 - 16 = 35 from rfl, show 51 - 15 = 36 from rfl, show 51 - 7 = 44 from rfl, show 51 - 2 = 49 from rfl, abcW35, abcW36, abcW44, abcW49]; decide +kernel
theorem abcW52 : wd abcB 52 = 2226839261 := by rw [wd_ge (by decide), show 52 - 16 = 36 from rfl, show 52 - 15 = 37 from rfl, show 52 - 7 = 45 from rfl, show 52 - 2 = 50 from rfl, abcW36, abcW37, abcW45, abcW50]; decide +kernel
theorem abcW53 : wd abcB 53 = 3256115900 := by rw [wd_ge (by decide), show 53 - 16 = 37 from rfl, show 53 - 15 = 38 from rfl, show 53 - 7 = 46 from rfl, show 53 - 2 = 51 from rfl, abcW37, abcW38, abcW46, abcW51]; decide +kernel
theorem abcW54 : wd abcB 54 = 344409900 := by rw [wd_ge (by decide), show 54 - 16 = 38 from rfl, show 54 - 15 = 39 from rfl, show 54 - 7 = 47 from rfl, show 54 - 2 = 52 from rfl, abcW38, abcW39, abcW47, abcW52]; decide +kernel
theorem abcW55 : wd abcB 55 = 2987358873 := by rw [wd_ge (by decide), show 55 - 16 = 39 from rfl, show 55 - 15 = 40 from rfl, show 55 - 7 = 48 from rfl, show 55 - 2 = 53 from rfl, abcW39, abcW40, abcW48, abcW53]; decide +kernel
theorem abcW56 : wd abcB 56 = 4015503821 := by rw [wd_ge (by decide), show 56 - 16 = 40 from rfl, show 56 - 15 = 41 from rfl, show 56 - 7 = 49 from rfl, show 56 - 2 = 54 from rfl, abcW40, abcW41, abcW49, abcW54]; decide +kernel
theorem abcW57 : wd abcB 57 = 3957764664 := by rw [wd_ge (by decide), show 57 - 16 = 41 from rfl, show 57 - 15 = 42 from rfl, show 57 - 7 = 50 from rfl, show 57 - 2 = 55 from rfl, abcW41, abcW42, abcW50, abcW55]; decide +kernel
theorem abcW58 : wd abcB 58 = 2682456414 := by rw [wd_ge (by decide), show 58 - 16 = 42 from rfl, show 58 - 15 = 43 from rfl, show 58 - 7 = 51 from rfl, show 58 - 2 = 56 from rfl, abcW42, abcW43, abcW51, abcW56]; decide +kernel
theorem abcW59 : wd abcB 59 = 2025622859 := by rw [wd_ge (by decide), show 59 - 16 = 43 from rfl, show 59 - 15 = 44 from rfl, show 59 - 7 = 52 from rfl, show 59 - 2 = 57 from rfl, abcW43, abcW44, abcW52, abcW57]; decide +kernel
theorem abcW60 : wd abcB 60 = 2755645205 := by rw [wd_ge (by decide), show 60 - 16 = 44 from rfl, show 60 - 15 = 45 from rfl, show 60 - 7 = 53 from rfl, show 60 - 2 = 58 from rfl, abcW44, abcW45, abcW53, abcW58]; decide +kernel
theorem abcW61 : wd abcB 61 = 1720397816 := by rw [wd_ge (by decide), show 61 - 16 = 45 from rfl, show 61 - 15 = 46 from rfl, show 61 - 7 = 54 from rfl, show 61 - 2 = 59 from rfl, abcW45, abcW46, abcW54, abcW59]; decide +kernel
theorem abcW62 : wd abcB 62 = 4004225740 := by rw [wd_ge (by decide), show 62 - 16 = 46 from rfl, show 62 - 15 = 47 from rfl, show 62 - 7 = 55 from rfl, show 62 - 2 = 60 from rfl, abcW46, abcW47, abcW55, abcW60]; decide +kernel
theorem abcW63 : wd abcB 63 = 313650667 := by rw [wd_ge (by decide), show 63 - 16 = 47 from rfl, show 63 - 15 = 48 from rfl, show 63 - 7 = 56 from rfl, show 63 - 2 = 61 from rfl, abcW47, abcW48, abcW56, abcW61]; decide +kernel
theorem abcR0 : rounds abcB 0 s0 = s0 := rounds_0 _ _
theorem st_eq {a b c d e f g h a' b' c' d' e' f' g' h' : UInt32} (h1 : decide (a = a' ∧ b = b' ∧ c = c' ∧ d = d' ∧ e = e' ∧ f = f' ∧ g = g' ∧ h = h') = true) : St.mk a b c d e f g h = ⟨a', b', c', d', e', f', g', h'⟩ := by
  obtain ⟨rfl, rfl, rfl, rfl, rfl, rfl, rfl, rfl⟩ := of_decide_eq_true h1
  rfl
theorem abcS0 : s0 = ⟨1779033703, 3144134277, 1013904242, 2773480762, 1359893119, 2600822924, 528734635, 1541459225⟩ := rfl
theorem abcR1 : rounds abcB 1 s0 = ⟨1567288269, 1779033703, 3144134277, 1013904242, 4197074466, 1359893119, 2600822924, 528734635⟩ := by
  rw [show 1 = 0 + 1 from rfl, rounds_succ, abcR0, abcS0, abcW0]
  exact st_eq (by decide +kernel)
theorem abcR2 : rounds abcB 2 s0 = ⟨1516951981, 1567288269, 1779033703, 3144134277, 2026797449, 4197074466, 1359893119, 2600822924⟩ := by
  rw [show 2 = 1 + 1 from rfl, rounds_succ, abcR1, abcW1]
  exact st_eq (by decide +kernel)
theorem abcR3 : rounds abcB 3 s0 = ⟨3368241063, 1516951981, 1567288269, 1779033703, 4180228587, 2026797449, 4197074466, 1359893119⟩ := by
  rw [show 3 = 2 + 1 from rfl, rounds_succ, abcR2, abcW2]
  exact st_eq (by decide +kernel)
theorem abcR4 : rounds abcB 4 s0 = ⟨3578852966, 3368241063, 1516951981, 1567288269, 618661968, 4180228587, 2026797449, 4197074466⟩ := by
  rw [show 4 = 3 + 1 from rfl, rounds_succ, abcR3, abcW3]
  exact st_eq (by decide +kernel)
theorem abcR5 : rounds abcB 5 s0 = ⟨71342698, 3578852966, 3368241063, 1516951981, 1135452741, 618661968, 4180228587, 2026797449⟩ := by
  rw [show 5 = 4 + 1 from rfl, rounds_succ, abcR4, abcW4]
  exact st_eq (by decide +kernel)
theorem abcR6 : rounds abcB 6 s0 = ⟨725748213, 71342698, 3578852966, 3368241063, 1900175533, 1135452741, 618661968, 4180228587⟩ := by
  rw [show 6 = 5 + 1 from rfl, rounds_succ, abcR5, abcW5]
  exact st_eq (by decide +kernel)
theorem abcR7 : rounds abcB 7 s0 = ⟨3842179968, 725748213, 71342698, 3578852966, 2603066369, 1900175533, 1135452741, 618661968⟩ := by
  rw [show 7 = 6 + 1 from rfl, rounds_succ, abcR6, abcW6]
  exact st_eq (by decide +kernel)
theorem abcR8 : rounds abcB 8 s0 = ⟨2241887071, 3842179968, 725748213, 71342698, 207977081, 2603066369, 1900175533, 1135452741⟩ := by
  rw [show 8 = 7 + 1 from rfl, rounds_succ, abcR7, abcW7]
  exact st_eq (by decide +kernel)
theorem abcR9 : rounds abcB 9 s0 = ⟨2382687417, 2241887071, 3842179968, 725748213, 852110732, 207977081, 2603066369, 1900175533⟩ := by
  rw [show 9 = 8 + 1 from rfl, rounds_succ, abcR8, abcW8]
  exact st_eq (by decide +kernel)
theorem abcR10 : rounds abcB 10 s0 = ⟨2357671019, 2382687417, 2241887071, 3842179968, 482944406, 852110732, 207977081, 2603066369⟩ := by
  rw [show 10 = 9 + 1 from rfl, rounds_succ, abcR9, abcW9]
  exact st_eq (by decide +kernel)
theorem abcR11 : rounds abcB 11 s0 = ⟨1201185780, 2357671019, 2382687417, 2241887071, 1131095016, 482944406, 852110732, 207977081⟩ := by
  rw [show 11 = 10 + 1 from rfl, rounds_succ, abcR10, abcW10]
  exact st_eq (by decide +kernel)
theorem abcR12 : rounds abcB 12 s0 = ⟨4146054569, 1201185780, 2357671019, 2382687417, 2171590377, 1131095016, 482944406, 852110732⟩ := by
  rw [show 12 = 11 + 1 from rfl, rounds_succ, abcR11, abcW11]
  exact st_eq (by decide +kernel)
theorem abcR13 : rounds abcB 13 s0 = ⟨2274437520, 4146054569, 1201185780, 2357671019, 509051416, 2171590377, 1131095016, 482944406⟩ := by
  rw [show 13 = 12 + 1 from rfl, rounds_succ, abcR12, abcW12]
  exact st_eq (by decide +kernel)
theorem abcR14 : rounds abcB 14 s0 = ⟨3643992854, 2274437520, 4146054569, 1201185780, 1952073950, 509051416, 2171590377, 1131095016⟩ := by
  rw [show 14 = 13 + 1 from rfl, rounds_succ, abcR13, abcW13]
  exact st_eq (by decide +kernel)
theorem abcR15 : rounds abcB 15 s0 = ⟨3227803614, 3643992854, 2274437520, 4146054569, 194179596, 1952073950, 509051416, 2171590377⟩ := by
  rw [show 15 = 14 + 1 from rfl, rounds_succ, abcR14, abcW14]
  exact st_eq (by decide +kernel)
theorem abcR16 : rounds abcB 16 s0 = ⟨2969183118, 3227803614, 3643992854, 2274437520, 123276749, 194179596, 1952073950, 509051416⟩ := by
  rw [show 16 = 15 + 1 from rfl, rounds_succ, abcR15, abcW15]
  exact st_eq (by decide +kernel)
theorem abcR17 : rounds abcB 17 s0 = ⟨567974555, 2969183118, 3227803614, 3643992854, 2150900380, 123276749, 194179596, 1952073950⟩ := by
  rw [show 17 = 16 + 1 from rfl, rounds_succ, abcR16, abcW16]
  exact st_eq (by decide +kernel)
theorem abcR18 : rounds abcB 18 s0 = ⟨3271285201, 567974555, 2969183118, 3227803614, 2221859924, 2150900380, 123276749, 194179596⟩ := by
  rw [show 18 = 17 + 1 from rfl, rounds_succ, abcR17, abcW17]
  exact st_eq (by decide +kernel)
theorem abcR19 : rounds abcB 19 s0 = ⟨4269243327, 3271285201, 567974555, 2969183118, 3431569761, 2221859924, 2150900380, 123276749⟩ := by
  rw [show 19 = 18 + 1 from rfl, rounds_succ, abcR18, abcW18]
  exact st_eq (by decide +kernel)
theorem abcR20 : rounds abcB 20 s0 = ⟨3790736435, 4269243327, 3271285201, 567974555, 2959311225, 3431569761, 2221859924, 2150900380⟩ := by
  rw [show 20 = 19 + 1 from rfl, rounds_succ, abcR19, abcW19]
  exact st_eq (by decide +kernel)
theorem abcR21 : rounds abcB 21 s0 = ⟨2647034723, 3790736435, 4269243327, 3271285201, 2329577776, 2959311225, 3431569761, 2221859924⟩ := by
  rw [show 21 = 20 + 1 from rfl, rounds_succ, abcR20, abcW20]
  exact st_eq (by decide +kernel)
theorem abcR22 : rounds abcB 22 s0 = ⟨3261099373, 2647034723, 3790736435, 4269243327, 3777329520, 2329577776, 2959311225, 3431569761⟩ := by
  rw [show 22 = 21 + 1 from rfl, rounds_succ, abcR21, abcW21]
  exact st_eq (by decide +kernel)
theorem abcR23 : rounds abcB 23 s0 = ⟨2812502591, 3261099373, 2647034723, 3790736435, 1240797514, 3777329520, 2329577776, 2959311225⟩ := by
  rw [show 23 = 22 + 1 from rfl, rounds_succ, abcR22, abcW22]
  exact st_eq (by decide +kernel)
theorem abcR24 : rounds abcB 24 s0 = ⟨3319086477, 2812502591, 3261099373, 2647034723, 2856829767, 1240797514, 3777329520, 2329577776⟩ := by
  rw [show 24 = 23 + 1 from rfl, rounds_succ, abcR23, abcW23]
  exact st_eq (by decide +kernel)
theorem abcR25 : rounds abcB 25 s0 = ⟨472655928, 3319086477, 2812502591, 3261099373, 673443729, 2856829767, 1240797514, 3777329520⟩ := by
  rw [show 25 = 24 + 1 from rfl, rounds_succ, abcR24, abcW24]
  exact st_eq (by decide +kernel)
theorem abcR26 : rounds abcB 26 s0 = ⟨3454534525, 472655928, 3319086477, 2812502591, 339230094, 673443729, 2856829767, 1240797514⟩ := by
  rw [show 26 = 25 + 1 from rfl, rounds_succ, abcR25, abcW25]
  exact st_eq (by decide +kernel)
theorem abcR27 : rounds abcB 27 s0 = ⟨3056518332, 3454534525, 472655928, 3319086477, 3343672598, 339230094, 673443729, 2856829767⟩ := by
  rw [show 27 = 26 + 1 from rfl, rounds_succ, abcR26, abcW26]
  exact st_eq (by decide +kernel)
theorem abcR28 : rounds abcB 28 s0 = ⟨2010346792, 3056518332, 3454534525, 472655928, 3992961016, 3343672598, 339230094, 673443729⟩ := by
  rw [show 28 = 27 + 1 from rfl, rounds_succ, abcR27, abcW27]
  exact st_eq (by decide +kernel)
theorem abcR29 : rounds abcB 29 s0 = ⟨909411017, 2010346792, 3056518332, 3454534525, 1628611511, 3992961016, 3343672598, 339230094⟩ := by
  rw [show 29 = 28 + 1 from rfl, rounds_succ, abcR28, abcW28]
  exact st_eq (by decide +kernel)
theorem abcR30 : rounds abcB 30 s0 = ⟨2684750640, 909411017, 2010346792, 3056518332, 2917635127, 1628611511, 3992961016, 3343672598⟩ := by
  rw [show 30 = 29 + 1 from rfl, rounds_succ, abcR29, abcW29]
  exact st_eq (by decide +kernel)
theorem abcR31 : rounds abcB 31 s0 = ⟨3935906338, 2684750640, 909411017, 2010346792, 17410874, 2917635127, 1628611511, 3992961016⟩ := by
  rw [show 31 = 30 + 1 from rfl, rounds_succ, abcR30, abcW30]
  exact st_eq (by decide +kernel)
theorem abcR32 : rounds abcB 32 s0 = ⟨1941126133, 3935906338, 2684750640, 909411017, 3126399250, 17410874, 2917635127, 1628611511⟩ := by
  rw [show 32 = 31 + 1 from rfl, rounds_succ, abcR31, abcW31]
  exact st_eq (by decide +kernel)
theorem abcR33 : rounds abcB 33 s0 = ⟨2564891911, 1941126133, 3935906338, 2684750640, 2631529974, 3126399250, 17410874, 2917635127⟩ := by
  rw [show 33 = 32 + 1 from rfl, rounds_succ, abcR32, abcW32]
  exact st_eq (by decide +kernel)
theorem abcR34 : rounds abcB 34 s0 = ⟨4267724277, 2564891911, 1941126133, 3935906338, 1495571923, 2631529974, 3126399250, 17410874⟩ := by
  rw [show 34 = 33 + 1 from rfl, rounds_succ, abcR33, abcW33]
  exact st_eq (by decide +kernel)
theorem abcR35 : rounds abcB 35 s0 = ⟨2846323596, 4267724277, 2564891911, 1941126133, 140458035, 1495571923, 2631529974, 3126399250⟩ := by
  rw [show 35 = 34 + 1 from rfl, rounds_succ, abcR34, abcW34]
  exact st_eq (by decide +kernel)
theorem abcR36 : rounds abcB 36 s0 = ⟨1705037796, 2846323596, 4267724277, 2564891911, 4105175766, 140458035, 1495571923, 2631529974⟩ := by
  rw [show 36 = 35 + 1 from rfl, rounds_succ, abcR35, abcW35]
  exact st_eq (by decide +kernel)
theorem abcR37 : rounds abcB 37 s0 = ⟨1101421745, 1705037796, 2846323596, 4267724277, 124953195, 4105175766, 140458035, 1495571923⟩ := by
  rw [show 37 = 36 + 1 from rfl, rounds_succ, abcR36, abcW36]
  exact st_eq (by decide +kernel)
theorem abcR38 : rounds abcB 38 s0 = ⟨887035396, 1101421745, 1705037796, 2846323596, 2768741693, 124953195, 4105175766, 140458035⟩ := by
  rw [show 38 = 37 + 1 from rfl, rounds_succ, abcR37, abcW37]
  exact st_eq (by decide +kernel)
theorem abcR39 : rounds abcB 39 s0 = ⟨1841658506, 887035396, 1101421745, 1705037796, 4034403272, 2768741693, 124953195, 4105175766⟩ := by
  rw [show 39 = 38 + 1 from rfl, rounds_succ, abcR38, abcW38]
  exact st_eq (by decide +kernel)
theorem abcR40 : rounds abcB 40 s0 = ⟨2045405306, 1841658506, 887035396, 1101421745, 519815328, 4034403272, 2768741693, 124953195⟩ := by
  rw [show 40 = 39 + 1 from rfl, rounds_succ, abcR39, abcW39]
  exact st_eq (by decide +kernel)
theorem abcR41 : rounds abcB 41 s0 = ⟨3597076326, 2045405306, 1841658506, 887035396, 641019235, 519815328, 4034403272, 2768741693⟩ := by
  rw [show 41 = 40 + 1 from rfl, rounds_succ, abcR40, abcW40]
  exact st_eq (by decide +kernel)
theorem abcR42 : rounds abcB 42 s0 = ⟨3745932591, 3597076326, 2045405306, 1841658506, 2206934801, 641019235, 519815328, 4034403272⟩ := by
  rw [show 42 = 41 + 1 from rfl, rounds_succ, abcR41, abcW41]
  exact st_eq (by decide +kernel)
theorem abcR43 : rounds abcB 43 s0 = ⟨397020670, 3745932591, 3597076326, 2045405306, 3737995029, 2206934801, 641019235, 519815328⟩ := by
  rw [show 43 = 42 + 1 from rfl, rounds_succ, abcR42, abcW42]
  exact st_eq (by decide +kernel)
theorem abcR44 : rounds abcB 44 s0 = ⟨2638983059, 397020670, 3745932591, 3597076326, 4255271982, 3737995029, 2206934801, 641019235⟩ := by
  rw [show 44 = 43 + 1 from rfl, rounds_succ, abcR43, abcW43]
  exact st_eq (by decide +kernel)
theorem abcR45 : rounds abcB 45 s0 = ⟨643991573, 2638983059, 397020670, 3745932591, 2819559920, 4255271982, 3737995029, 2206934801⟩ := by
  rw [show 45 = 44 + 1 from rfl, rounds_succ, abcR44, abcW44]
  exact st_eq (by decide +kernel)
theorem abcR46 : rounds abcB 46 s0 = ⟨1923828625, 643991573, 2638983059, 397020670, 3077922209, 2819559920, 4255271982, 3737995029⟩ := by
  rw [show 46 = 45 + 1 from rfl, rounds_succ, abcR45, abcW45]
  exact st_eq (by decide +kernel)
theorem abcR47 : rounds abcB 47 s0 = ⟨2706117808, 1923828625, 643991573, 2638983059, 3581645993, 3077922209, 2819559920, 4255271982⟩ := by
  rw [show 47 = 46 + 1 from rfl, rounds_succ, abcR46, abcW46]
  exact st_eq (by decide +kernel)
theorem abcR48 : rounds abcB 48 s0 = ⟨1098003085, 2706117808, 1923828625, 643991573, 4274981830, 3581645993, 3077922209, 2819559920⟩ := by
  rw [show 48 = 47 + 1 from rfl, rounds_succ, abcR47, abcW47]
  exact st_eq (by decide +kernel)
theorem abcR49 : rounds abcB 49 s0 = ⟨91585771, 1098003085, 2706117808, 1923828625, 3178315832, 4274981830, 3581645993, 3077922209⟩ := by
  rw [show 49 = 48 + 1 from rfl, rounds_succ, abcR48, abcW48]
  exact st_eq (by decide +kernel)
theorem abcR50 : rounds abcB 50 s0 = ⟨4045142696, 91585771, 1098003085, 2706117808, 1851537676, 3178315832, 4274981830, 3581645993⟩ := by
  rw [show 50 = 49 + 1 from rfl, rounds_succ, abcR49, abcW49]
  exact st_eq (by decide +kernel)
theorem abcR51 : rounds abcB 51 s0 = ⟨2047150241, 4045142696, 91585771, 1098003085, 1391578359, 1851537676, 3178315832, 4274981830⟩ := by
  rw [show 51 = 50 + 1 from rfl, rounds_succ, abcR50, abcW50]
  exact st_eq (by decide +kernel)
theorem abcR52 : rounds abcB 52 s0 = ⟨2288941602, 2047150241, 4045142696, 91585771, 1227037726, 1391578359, 1851537676, 3178315832⟩ := by
  rw [show 52 = 51 + 1 from rfl, rounds_succ, abcR51, abcW51]
  exact st_eq (by decide +kernel)
theorem abcR53 : rounds abcB 53 s0 = ⟨270520975, 2288941602, 2047150241, 4045142696, 1386118400, 1227037726, 1391578359, 1851537676⟩ := by
  rw [show 53 = 52 + 1 from rfl, rounds_succ, abcR52, abcW52]
  exact st_eq (by decide +kernel)
theorem abcR54 : rounds abcB 54 s0 = ⟨4117770203, 270520975, 2288941602, 2047150241, 2672265155, 1386118400, 1227037726, 1391578359⟩ := by
  rw [show 54 = 53 + 1 from rfl, rounds_succ, abcR53, abcW53]
  exact st_eq (by decide +kernel)
theorem abcR55 : rounds abcB 55 s0 = ⟨1053056219, 4117770203, 270520975, 2288941602, 3842906959, 2672265155, 1386118400, 1227037726⟩ := by
  rw [show 55 = 54 + 1 from rfl, rounds_succ, abcR54, abcW54]
  exact st_eq (by decide +kernel)
theorem abcR56 : rounds abcB 56 s0 = ⟨952932627, 1053056219, 4117770203, 270520975, 1422599787, 3842906959, 2672265155, 1386118400⟩ := by
  rw [show 56 = 55 + 1 from rfl, rounds_succ, abcR55, abcW55]
  exact st_eq (by decide +kernel)
theorem abcR57 : rounds abcB 57 s0 = ⟨4241590395, 952932627, 1053056219, 4117770203, 2606665836, 1422599787, 3842906959, 2672265155⟩ := by
  rw [show 57 = 56 + 1 from rfl, rounds_succ, abcR56, abcW56]
  exact st_eq (by decide +kernel)
theorem abcR58 : rounds abcB 58 s0 = ⟨3227702383, 4241590395, 952932627, 1053056219, 2118385806, 2606665836, 1422599787, 3842906959⟩ := by
  rw [show 58 = 57 + 1 from rfl, rounds_succ, abcR57, abcW57]
  exact st_eq (by decide +kernel)
theorem abcR59 : rounds abcB 59 s0 = ⟨4290184306, 3227702383, 4241590395, 952932627, 1837350854, 2118385806, 2606665836, 1422599787⟩ := by
  rw [show 59 = 58 + 1 from rfl, rounds_succ, abcR58, abcW58]
  exact st_eq (by decide +kernel)
theorem abcR60 : rounds abcB 60 s0 = ⟨3064893439, 4290184306, 3227702383, 4241590395, 2988158269, 1837350854, 2118385806, 2606665836⟩ := by
  rw [show 60 = 59 + 1 from rfl, rounds_succ, abcR59, abcW59]
  exact st_eq (by decide +kernel)
theorem abcR61 : rounds abcB 61 s0 = ⟨3093179625, 3064893439, 4290184306, 3227702383, 2518632596, 2988158269, 1837350854, 2118385806⟩ := by
  rw [show 61 = 60 + 1 from rfl, rounds_succ, abcR60, abcW60]
  exact st_eq (by decide +kernel)
theorem abcR62 : rounds abcB 62 s0 = ⟨80891244, 3093179625, 3064893439, 4290184306, 2492278198, 2518632596, 2988158269, 1837350854⟩ := by
  rw [show 62 = 61 + 1 from rfl, rounds_succ, abcR61, abcW61]
  exact st_eq (by decide +kernel)
theorem abcR63 : rounds abcB 63 s0 = ⟨3550093669, 80891244, 3093179625, 3064893439, 4212265488, 2492278198, 2518632596, 2988158269⟩ := by
  rw [show 63 = 62 + 1 from rfl, rounds_succ, abcR62, abcW62]
  exact st_eq (by decide +kernel)
theorem abcR64 : rounds abcB 64 s0 = ⟨1349398616, 3550093669, 80891244, 3093179625, 1593118500, 4212265488, 2492278198, 2518632596⟩ := by
  rw [show 64 = 63 + 1 from rfl, rounds_succ, abcR63, abcW63]
  exact st_eq (by decide +kernel)
theorem abcBl : blockS s0 abcB = ⟨3128432319, 2399260650, 1094795486, 1571693091, 2953011619, 2518121116, 3021012833, 4060091821⟩ := by
  unfold blockS
  rw [abcR64]
  exact st_eq (by decide +kernel)
theorem abcP : padded [97, 98, 99] = abcB := by decide +kernel
theorem abcL : abcB.length = 64 := by decide +kernel
theorem abcD : digest [97, 98, 99] = [186, 120, 22, 191, 143, 1, 207, 234, 65, 65, 64, 222, 93, 174, 34, 35, 176, 3, 97, 163, 150, 23, 122, 156, 180, 16, 255, 97, 242, 0, 21, 173] := by
  unfold digest
  rw [abcP, abcL, show 64 / 64 = 0 + 1 from rfl, blk_succ, blk_0, show (List.drop (64 * 0) abcB).take 64 = abcB from by decide +kernel, abcBl]
  decide +kernel
theorem abcH : hexS (digest [97, 98, 99]) = [98, 97, 55, 56, 49, 54, 98, 102, 56, 102, 48, 49, 99, 102, 101, 97, 52, 49, 52, 49, 52, 48, 100, 101, 53, 100, 97, 101, 50, 50, 50, 51, 98, 48, 48, 51, 54, 49, 97, 51, 57, 54, 49, 55, 55, 97, 57, 99, 98, 52, 49, 48, 102, 102, 54, 49, 102, 50, 48, 48, 49, 53, 97, 100] := by
  rw [abcD]
  decide +kernel
end Go.Proofs.Ytglbldhineggaaa.DG
