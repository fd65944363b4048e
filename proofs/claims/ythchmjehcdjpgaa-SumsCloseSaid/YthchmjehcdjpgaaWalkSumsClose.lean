/- The walk of SumsClose: of bytes with their digest behind them the sum is always the same. -/
import Derived.Test.YthchmjehcdjpgaaKnown01
namespace Go.Proofs.Ythchmjehcdjpgaa
open Go.RowKit
set_option linter.unusedVariables false

theorem close_num (bs : List UInt8) : u32v (crcMore (crcSum bs) (crcDigest (crcSum bs))) = 1214729159 := by rw [crc_close]; decide
theorem sumsClose_walk (w : World) (v : Value) (bs : List UInt8) (h : Bs w v bs) (hl : bs.length ≤ 140737488351232) :
    Calls Try.prog 3 #[v] w fun e w' => e = .returned (.bool true) ∧ Same w w' := by
  go_enter Try.func3, Try.ntmps3
  go_wp2_with fail
  refine (sum_bs v bs w h).mono ?_
  rintro e w' ⟨rfl, rfl⟩
  go_wp2_with fail
  refine (digest_bs v bs w h).mono ?_
  rintro e w1 ⟨v1, rfl, hf, hs⟩
  go_wp2_with fail
  refine (more_bs v1 _ _ w1 hf.bs).mono ?_
  rintro e w' ⟨rfl, rfl⟩
  rw [close_num]
  go_wp2_with fail
  refine (known_any _).mono ?_
  rintro e w2 ⟨rfl, hk⟩
  go_wp2
  go_ret
  exact ⟨rfl, Same.trans hs hk⟩
end Go.Proofs.Ythchmjehcdjpgaa
