/- The fixed calls of chapter 19. -/
import Derived.Test.YtjfcdinobhmmeaaWinO
namespace Go.Proofs.Ytjfcdinobhmmeaa
open Go.RowKit
set_option linter.unusedVariables false
set_option linter.unusedSimpArgs false

theorem WGrew.go {w0 W W' : World} {F : Nat → Prop} {p : Nat} {s s' : WSt} (g : WGrew w0.heap.size F W p W' s') (h : WinO w0.heap.size F W p s) (hs : Same w0 W) : ∃ F', WinO w0.heap.size F' W' p s' ∧ Same w0 W' := by
  obtain ⟨F', h1, h2⟩ := g
  obtain ⟨V, a1, a2, a3⟩ := h
  exact ⟨F', h1, h2.keeps hs a3⟩
theorem kn1 : WSt.come ⟨4294967295, 2, 0, [], []⟩ 0 false 5 = (0, ⟨4294967295, 2, 0, [(0, 5)], []⟩) := by rfl
theorem kn2 : WSt.come ⟨4294967295, 2, 0, [(0, 5)], []⟩ 1 false 6 = (5, ⟨4294967295, 2, 0, [(0, 5)], []⟩) := by rfl
theorem kn3 : WSt.come ⟨4294967295, 2, 0, [(0, 5)], []⟩ 4294967295 false 4 = (0, ⟨1, 2, 2, [], [(4, false), (5, false)]⟩) := by rfl
theorem kn4 : highOf 1 2 2 = 0 := by rfl
theorem kn5 : highOf 1 2 1 = 1 := by rfl
theorem kn6 : WSt.next ⟨1, 2, 2, [], [(4, false), (5, false)]⟩ = (4, true, ⟨1, 2, 2, [], [(5, false)]⟩) := rfl
theorem kn7 : WSt.next ⟨1, 2, 2, [], [(5, false)]⟩ = (5, true, ⟨1, 2, 2, [], []⟩) := rfl
theorem kn8 : WSt.next ⟨1, 2, 2, [], []⟩ = (0, false, ⟨1, 2, 2, [], []⟩) := rfl
theorem kn9 : WSt.done ⟨1, 2, 2, [], []⟩ = (0, ⟨1, 2, 1, [], []⟩) := rfl
set_option maxRecDepth 100000 in
set_option maxHeartbeats 1000000 in
theorem known_any (w : World) : Calls Try.prog 8 #[] w fun r w' => r = .returned (.bool true) ∧ Same w w' := by
  go_enter Try.func8, Try.ntmps8
  go_wp2_with fail
  refine (new_good 4294967295 2 w (by decide) (by decide)).mono ?_
  rintro r w1 ⟨rfl, hc, hs1⟩
  obtain ⟨hO, hok⟩ := new_o 4294967295 2 w (by decide) (by decide) (by decide) (by decide) hc w.heap.size (Nat.le_refl _)
  have hcm := come_o hO hs1.size hok 0 (by decide) (by decide) (by simp) false 5
  have hokc := hok.come (n := 0) (id := 5) (now := false) (by decide) (by decide)
  rw [kn1] at hcm hokc
  have HO := Lib.hid (And.intro hO hs1)
  have HOK := Lib.hid hokc
  have HCM := Lib.hid hcm
  clear hcm hokc hO hs1 hc hok
  go_wp2_with fail
  refine HCM.out.mono ?_
  rintro r w2 ⟨rfl, hg⟩
  obtain ⟨F2, hO2, hs2⟩ := hg.go HO.out.1 HO.out.2
  have hcm := come_o hO2 hs2.size HOK.out 1 (by decide) (by decide) (by simp) false 6
  have hokc := HOK.out.come (n := 1) (id := 6) (now := false) (by decide) (by decide)
  rw [kn2] at hcm hokc
  clear HO HOK HCM
  have HO := Lib.hid (And.intro hO2 hs2)
  have HOK := Lib.hid hokc
  have HCM := Lib.hid hcm
  clear hcm hokc hO2 hs2 hg
  go_wp2_with fail
  refine HCM.out.mono ?_
  rintro r w3 ⟨rfl, hg⟩
  obtain ⟨F3, hO3, hs3⟩ := hg.go HO.out.1 HO.out.2
  have hcm := come_o hO3 hs3.size HOK.out 4294967295 (by decide) (by decide) (by simp) false 4
  have hokc := HOK.out.come (n := 4294967295) (id := 4) (now := false) (by decide) (by decide)
  rw [kn3] at hcm hokc
  clear HO HOK HCM
  have HO := Lib.hid (And.intro hO3 hs3)
  have HOK := Lib.hid hokc
  have HCM := Lib.hid hcm
  clear hcm hokc hO3 hs3 hg
  go_wp2_with fail
  refine HCM.out.mono ?_
  rintro r w4 ⟨rfl, hg⟩
  obtain ⟨F4, hO4, hs4⟩ := hg.go HO.out.1 HO.out.2
  have hn := next_o hO4 hs4.size (by simp)
  have hokn := HOK.out.next
  rw [kn6] at hn hokn
  clear HO HOK HCM
  have HO := Lib.hid (And.intro hO4 hs4)
  have HOK := Lib.hid hokn
  have HN := Lib.hid hn
  clear hn hokn hO4 hs4 hg
  go_wp2_with fail
  refine HN.out.mono ?_
  rintro r w5 ⟨rfl, hg⟩
  obtain ⟨F5, hO5, hs5⟩ := hg.go HO.out.1 HO.out.2
  have hn := next_o hO5 hs5.size (by simp)
  have hokn := HOK.out.next
  rw [kn7] at hn hokn
  clear HO HOK HN
  have HO := Lib.hid (And.intro hO5 hs5)
  have HOK := Lib.hid hokn
  have HN := Lib.hid hn
  clear hn hokn hO5 hs5 hg
  go_wp2_with fail
  refine HN.out.mono ?_
  rintro r w6 ⟨rfl, hg⟩
  obtain ⟨F6, hO6, hs6⟩ := hg.go HO.out.1 HO.out.2
  have hn := next_o hO6 hs6.size (by simp)
  have hokn := HOK.out.next
  rw [kn8] at hn hokn
  clear HO HOK HN
  have HO := Lib.hid (And.intro hO6 hs6)
  have HOK := Lib.hid hokn
  have HN := Lib.hid hn
  clear hn hokn hO6 hs6 hg
  go_wp2_with fail
  refine HN.out.mono ?_
  rintro r w7 ⟨rfl, hg⟩
  obtain ⟨F7, hO7, hs7⟩ := hg.go HO.out.1 HO.out.2
  have hh := highest_o hO7 HOK.out
  rw [kn4] at hh
  clear HO HN
  have HO := Lib.hid (And.intro hO7 hs7)
  have HH := Lib.hid hh
  clear hh hO7 hs7 hg
  go_wp2_with fail
  refine HH.out.mono ?_
  rintro r w8 ⟨rfl, hs⟩
  have hO8 := HO.out.1.same hs
  have hs8 := Same.trans HO.out.2 hs
  have hd := done_o hO8 HOK.out
  have hokd := HOK.out.done
  rw [kn9] at hd hokd
  clear HO HOK HH
  have HO := Lib.hid (And.intro hO8 hs8)
  have HOK := Lib.hid hokd
  have HD := Lib.hid hd
  clear hd hokd hO8 hs8 hs
  go_wp2_with fail
  refine HD.out.mono ?_
  rintro r w9 ⟨rfl, hg⟩
  obtain ⟨F9, hO9, hs9⟩ := hg.go HO.out.1 HO.out.2
  have hh := highest_o hO9 HOK.out
  rw [kn5] at hh
  clear HO HD
  have HO := Lib.hid (And.intro hO9 hs9)
  have HH := Lib.hid hh
  clear hh hO9 hs9 hg
  go_wp2_with fail
  refine HH.out.mono ?_
  rintro r wa ⟨rfl, hs⟩
  have hb := busy_o (HO.out.1.same hs)
  have hsa := Same.trans HO.out.2 hs
  have HB := Lib.hid hb
  have HS := Lib.hid hsa
  clear hb hsa hs
  go_wp2_with fail
  refine HB.out.mono ?_
  rintro r wb ⟨rfl, rfl⟩
  go_wp2_with fail
  go_ret
  exact ⟨rfl, HS.out⟩
end Go.Proofs.Ytjfcdinobhmmeaa
