/- The walk of SumsPieces: the sum of bytes in pieces is the sum of them all. -/
import Derived.Test.YthchmjehcdjpgaaKnown01
namespace Go.Proofs.Ythchmjehcdjpgaa
open Go.RowKit
set_option linter.unusedVariables false

theorem sumsPieces_walk (w : World) (v : Value) (xs : List UInt8) (h : Bs w v xs) (hl : xs.length ≤ 140737488351232) (v' : Value) (ys : List UInt8) (h' : Bs w v' ys) (hl' : ys.length ≤ 140737488351232) :
    Calls Try.prog 6 #[v, v'] w fun e w' => e = .returned (.bool true) ∧ Same w w' := by
  obtain ⟨A, cap, rfl, hcap⟩ : ∃ A cap, v' = .slice A ys.length cap ∧ ys.length ≤ cap := by obtain ⟨A, cap, rfl, h1, _⟩ := h'; exact ⟨A, cap, rfl, h1⟩
  obtain ⟨n, hn⟩ : ∃ n, n = ys.length := ⟨_, rfl⟩
  have hi5 : (Try.prog.info? 5).map (fun i => (i.zero, i.size, i.bytes)) = some (some (.int .u8 0), 1, 1) := by kernel_rfl
  rw [← hn] at hl' h' ⊢
  by_cases h0 : 65536 < n
  · go_enter Try.func6, Try.ntmps6
    go_wp2_with fail
    refine (known_any _).mono ?_
    rintro e w' ⟨rfl, hs⟩
    go_wp2
    go_ret
    exact ⟨rfl, hs⟩
  · have HN := Lib.hid hn
    clear hn
    have hsum : crcMore (crcSum xs) ys = crcSum (xs ++ ys) := by unfold crcSum; rw [crcMore_append]
    have hjoin : crcN (8 * n) (crcSum xs) ^^^ crcSum ys = crcSum (xs ++ ys) := by rw [HN.out]; exact crc_join xs ys
    have HS := Lib.hid hsum
    have HJ := Lib.hid hjoin
    clear hsum hjoin
    go_enter Try.func6, Try.ntmps6
    go_wp2_with (first
      | (at_builtin; refine wpl_append_bytes rfl (.tmp 13) (.tmp 14) 22 rfl Try.underlying22 hi5 w.heap.size (.slice none 0 0) v [] xs xs rfl rfl rfl (Fresh.nil _ _) h (Nat.le_refl _) (by simp; omega) ?_; intro v2 w2 hf2 hu2 hr2; have hs2 : Same w w2 := hu2.mono fun i _ hi => by simp [room] at hi)
      | (at_builtin; refine wpl_append_bytes rfl (.tmp 16) (.tmp 17) 22 rfl Try.underlying22 hi5 w.heap.size v2 (.slice A n cap) xs ys (xs ++ ys) rfl rfl rfl hf2 (h'.same hs2) hs2.size (by have := HN.out; omega) ?_; intro v3 w3 hf3 hu3 hr3))
    have hw3 : Same w w3 := ⟨hu3.os.trans hs2.os, hu3.tape.trans hs2.tape, hu3.output.trans hs2.output, Nat.le_trans hs2.size hu3.size,
      fun k hk _ => (hu3.block k (Nat.lt_of_lt_of_le hk hs2.size) fun e => by have := (hf2.ge k e).1; omega).trans (hs2.block k hk id)⟩
    have hb3 : Bs w3 v3 (xs ++ ys) := hf3.bs
    have hx3 : Bs w3 v xs := h.same hw3
    have hy3 : Bs w3 (.slice A n cap) ys := h'.same hw3
    clear hu2 hr2 hu3 hr3 hf2 hf3 hs2 h h'
    refine (sum_bs _ _ _ hb3).mono ?_
    rintro e w' ⟨rfl, rfl⟩
    go_wp2_with fail
    refine (sum_bs _ _ _ hx3).mono ?_
    rintro e w' ⟨rfl, rfl⟩
    go_wp2_with fail
    refine (sum_bs _ _ _ hy3).mono ?_
    rintro e w' ⟨rfl, rfl⟩
    go_wp2_with fail
    refine (join_any _ _ n _ (by omega)).mono ?_
    rintro e w' ⟨rfl, rfl⟩
    rw [HJ.out]
    go_wp2_with fail
    refine (sum_bs _ _ _ hx3).mono ?_
    rintro e w' ⟨rfl, rfl⟩
    go_wp2_with fail
    refine (more_bs _ _ _ _ hy3).mono ?_
    rintro e w' ⟨rfl, rfl⟩
    rw [HS.out]
    go_wp2_with fail
    refine (more_bs _ [] _ _ (Bs.nil _)).mono ?_
    rintro e w' ⟨rfl, rfl⟩
    rw [show crcMore (crcSum (xs ++ ys)) [] = crcSum (xs ++ ys) from by unfold crcMore; rw [crcF_nil, BitVec.not_not]]
    go_wp2_with fail
    refine (known_any _).mono ?_
    rintro e w4 ⟨rfl, hs⟩
    go_wp2
    go_ret
    exact ⟨rfl, Same.trans hw3 hs⟩
end Go.Proofs.Ythchmjehcdjpgaa
