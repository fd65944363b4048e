/- The walk of WindowNil. -/
import Derived.Test.YtjfcdinobhmmeaaWinKn
namespace Go.Proofs.Ytjfcdinobhmmeaa
open Go.RowKit
set_option linter.unusedVariables false
set_option linter.unusedSimpArgs false
set_option maxRecDepth 100000 in
theorem windowNil_walk (w : World) (n : Int) (hn : (Lit.int .u32 n).wf = true) (now : Bool) :
    Calls Try.prog 5 #[.int .u32 n, .bool now] w fun e w' => e = .returned (.bool true) ∧ Same w w' := by
  clear hn
  go_enter Try.func5, Try.ntmps5
  go_wp2_with (first
    | (refine (nil_next _).mono ?_; rintro r w' ⟨rfl, rfl⟩)
    | (refine (nil_come _ _ _ _).mono ?_; rintro r w' ⟨rfl, rfl⟩)
    | (refine (nil_done _).mono ?_; rintro r w' ⟨rfl, rfl⟩)
    | (refine (nil_expected _).mono ?_; rintro r w' ⟨rfl, rfl⟩)
    | (refine (nil_highest _).mono ?_; rintro r w' ⟨rfl, rfl⟩)
    | (refine (nil_held _).mono ?_; rintro r w' ⟨rfl, rfl⟩)
    | (refine (nil_busy _).mono ?_; rintro r w' ⟨rfl, rfl⟩))
  refine (known_any _).mono ?_
  rintro r w' ⟨rfl, hs⟩
  have HS := Lib.hid hs
  clear hs
  go_wp2_with fail
  go_ret
  exact ⟨rfl, HS.out⟩
end Go.Proofs.Ytjfcdinobhmmeaa
