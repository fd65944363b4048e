/- The walk of SumsPads: it returns true, whatever the number. -/
import Derived.Test.YthchmjehcdjpgaaKnown01
namespace Go.Proofs.Ythchmjehcdjpgaa
open Go.RowKit
set_option linter.unusedVariables false

theorem sumsPads_walk (w : World) (n : Int) (hn : (Lit.int .i64 n).wf = true) :
    Calls Try.prog 5 #[.int .i64 n] w fun e w' => e = .returned (.bool true) ∧ Same w w' := by
  have hr := padOf_range n
  obtain ⟨p, hp⟩ : ∃ p, p = padOf n := ⟨_, rfl⟩
  have HP := Lib.hid hp
  rw [← hp] at hr
  have h1 := pad_any n w
  rw [← hp] at h1
  clear hp
  have H1 := Lib.hid h1
  clear h1
  by_cases h0 : n < 0
  · go_enter Try.func5, Try.ntmps5
    go_wp2_with (first
      | (go_at_call 13; refine H1.out.mono ?_; rintro e w' ⟨rfl, rfl⟩)
      | (go_at_call 12; refine (known_any _).mono ?_; rintro e w' ⟨rfl, hs⟩))
    go_ret
    exact ⟨rfl, hs⟩
  · by_cases h2 : n ≤ 1099511627776
    · have h3 : (n + p) % 4 = 0 := by rw [HP.out, padOf, if_neg h0]; omega
      have h4 : padOf (n + p) = 0 := by rw [padOf, if_neg (by omega)]; omega
      go_enter Try.func5, Try.ntmps5
      go_wp2_with fail
      refine H1.out.mono ?_
      rintro e w' ⟨rfl, rfl⟩
      go_wp2_with fail
      refine (pad_any (n + p) _).mono ?_
      rintro e w' ⟨rfl, rfl⟩
      rw [h4]
      go_wp2_with fail
      refine (known_any _).mono ?_
      rintro e w' ⟨rfl, hs⟩
      go_wp2
      go_ret
      exact ⟨rfl, hs⟩
    · go_enter Try.func5, Try.ntmps5
      go_wp2_with (first
        | (go_at_call 13; refine H1.out.mono ?_; rintro e w' ⟨rfl, rfl⟩)
        | (go_at_call 12; refine (known_any _).mono ?_; rintro e w' ⟨rfl, hs⟩))
      go_ret
      exact ⟨rfl, hs⟩
end Go.Proofs.Ythchmjehcdjpgaa
