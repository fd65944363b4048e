/- A drawn region: two may come up. -/
import Derived.Test.YtfafepmghcobdaaGa
namespace Go.Proofs.Ytfafepmghcobdaa
open Go.RowKit
set_option linter.unusedVariables false
section
variable {P : Program} {ops : Array Oper} {Q : Exit → Act → World → Prop} {md : Region.Mode} {S : World → Prop} {need : Nat → Bool}
theorem wpAnyN_twoC {i j : Nat} {oi oj : Oper} {fuel : Nat} {listed : Array Bool} {a : Act} {w : World} (hr : Region.ready md ops listed = [i, j]) (hi : ops[i]? = some oi) (hj : ops[j]? = some oj) (hcl : Closed md ops listed)
    (h1 : Closed md ops (listed.setIfInBounds i true) → ∀ K' : Act → World → Prop, Shut (∀ a w, (need i = true → S w) → wpAnyN P md ops Q S need fuel (listed.setIfInBounds i true) a w → K' a w) → if Region.wanted oi (yielded ops a.tmps) = true then Oper.wp P oi a w K' Q else K' (a.put oi.dst undef) w)
    (h2 : Closed md ops (listed.setIfInBounds j true) → ∀ K' : Act → World → Prop, Shut (∀ a w, (need j = true → S w) → wpAnyN P md ops Q S need fuel (listed.setIfInBounds j true) a w → K' a w) → if Region.wanted oj (yielded ops a.tmps) = true then Oper.wp P oj a w K' Q else K' (a.put oj.dst undef) w) :
    wpAnyN P md ops Q S need (fuel + 1) listed a w := by
  refine ⟨fun e => (by rw [hr] at e; cases e), fun k hk => ?_⟩
  rw [hr] at hk
  have hi2 : i ∈ Region.ready md ops listed := by rw [hr]; simp
  have hj2 : j ∈ Region.ready md ops listed := by rw [hr]; simp
  by_cases hki : k = i
  · subst hki
    exact wpOp_step hi fun K' hK => h1 (closed_set hcl hi2) K' fun a w hS hW => hK a w ⟨hS, hW⟩
  · obtain rfl : k = j := by
      rcases List.mem_cons.1 hk with h | h
      · exact absurd h hki
      · exact List.mem_singleton.1 h
    exact wpOp_step hj fun K' hK => h2 (closed_set hcl hj2) K' fun a w hS hW => hK a w ⟨hS, hW⟩
end
end Go.Proofs.Ytfafepmghcobdaa
