/- The walk of SumsTwice: bytes are right for their own digest; with one more they are right for it just where the digests are the same. -/
import Derived.Test.YthchmjehcdjpgaaKnown01
import Derived.RegionTactic
import Derived.Deep.RegionHeld3
namespace Go.Proofs.Ythchmjehcdjpgaa
open Go.RowKit
set_option linter.unusedVariables false

theorem sumsTwice_walk (w : World) (v : Value) (bs : List UInt8) (h : Bs w v bs) (hl : bs.length ≤ 140737488351232) (c : Int) (hc : (Lit.int .u8 c).wf = true) :
    Calls Try.prog 8 #[v, .int .u8 c] w fun e w' => e = .returned (.bool true) ∧ Same w w' := by
  have hcb : 0 ≤ c ∧ c ≤ 255 := by simpa [Lit.wf, IntKind.min, IntKind.max, IntKind.bits, IntKind.signed] using hc
  go_enter Try.func8, Try.ntmps8
  go_wp2_with fail
  refine (digest_bs v bs w h).mono ?_
  rintro e w1 ⟨v1, rfl, hf, hs⟩
  have hB := hs.size
  have hi5 : (Try.prog.info? 5).map (fun i => (i.zero, i.size, i.bytes)) = some (some (.int .u8 0), 1, 1) := by kernel_rfl
  go_wp2_with (first
    | (at_builtin; refine wpl_append_bytes rfl (.tmp 10) (.tmp 11) 22 rfl Try.underlying22 hi5 w.heap.size (.slice none 0 0) v [] bs bs rfl rfl rfl (Fresh.nil _ _) (h.same hs) hB (by simp; omega) ?_; intro v2 w2 hf2 hu2 hr2)
    | (at_builtin; refine wpl_append_bytes rfl (.tmp 13) (.tmp 15) 22 rfl Try.underlying22 hi5 w.heap.size v2 _ bs [UInt8.ofNat c.toNat] (bs ++ [UInt8.ofNat c.toNat]) rfl rfl rfl (hf2.same ((Upd.refl _ w2).alloc _)) (Bs.one w2 c _ _ rfl hcb.1 hcb.2) (by have := hu2.size; simp; omega) (by simp; omega) ?_; intro v3 w3 hf3 hu3 hr3))
  have hu2' : Same w1 w2 := hu2.mono fun i _ hi => by simp [room] at hi
  have hs2 : Same w w2 := Same.trans hs hu2'
  have hB2 := hs2.size
  have hs3 : Upd (fun k => w1.heap.size ≤ k) w2 w3 := ((Upd.refl _ w2).alloc _).trans hu3 fun i hi hk => by
    rcases hr2 i hk with h' | h'
    · simp [room] at h'
    · exact h'
  have hf31 : Fresh w.heap.size w3 v1 (crcDigest (crcSum bs)) := (hf.same hu2').upd hs3 fun k hk hk2 => by have := (hf.ge k hk).2; omega
  have hs4 : Same w w3 := ⟨hs3.os.trans hs2.os, hs3.tape.trans hs2.tape, hs3.output.trans hs2.output, Nat.le_trans hs2.size hs3.size, fun k hk hn => (hs3.block k (by omega) (by omega)).trans (hs2.block k hk hn)⟩
  clear hs3 hu2 hu3 hr2 hr3 hf2 hu2'
  refine (digest_bs v3 _ w3 hf3.bs).mono ?_
  rintro e w4 ⟨v4, rfl, hf4, hs5⟩
  obtain ⟨hW0, hW1, hW3, hW4⟩ : Bs w4 v bs ∧ Bs w4 v1 (crcDigest (crcSum bs)) ∧ Bs w4 v3 (bs ++ [UInt8.ofNat c.toNat]) ∧ Bs w4 v4 (crcDigest (crcSum (bs ++ [UInt8.ofNat c.toNat]))) :=
    ⟨h.same (Same.trans hs4 hs5), (hf31.same hs5).bs, (hf3.same hs5).bs, hf4.bs⟩
  have hS0 : Same w w4 := Same.trans hs4 hs5
  clear hf hf31 hf3 hf4 hs4 hs5 hs hs2 h
  have hcv1 : ∀ w', Same w4 w' → (convert 22 9 v1).run Try.prog w' = .ok (.string (strB (crcDigest (crcSum bs)))) w' := fun w' hs => conv_bs Try.underlying22 Try.underlying5 Try.underlying9 (hW1.same hs)
  have hcv4 : ∀ w', Same w4 w' → (convert 22 9 v4).run Try.prog w' = .ok (.string (strB (crcDigest (crcSum (bs ++ [UInt8.ofNat c.toNat]))))) w' := fun w' hs => conv_bs Try.underlying22 Try.underlying5 Try.underlying9 (hW4.same hs)
  by_cases hde : crcDigest (crcSum (bs ++ [UInt8.ofNat c.toNat])) = crcDigest (crcSum bs)
  · rw [hde] at hcv4
    have HDE := Lib.hid hde
    clear hde
    go_wp2_with fail
    go_region_held3 (fun w' => Same w4 w') (first | assumption | exact (Upd.refl _ _).drew) (first
      | (go_at_call 16; have hh : Same w4 _ := (by assumption); ((with_reducible refine (right_true v v1 _ _ _ (hW0.same hh) (hW1.same hh) rfl).mono ?_); rintro e w' ⟨rfl, hs'⟩; have hh' := Same.trans hh hs'))
      | (go_at_call 16; have hh : Same w4 _ := (by assumption); ((with_reducible refine (right_true v3 v4 _ _ _ (hW3.same hh) (hW4.same hh) rfl).mono ?_); rintro e w' ⟨rfl, hs'⟩; have hh' := Same.trans hh hs'))
      | (go_at_call 16; have hh : Same w4 _ := (by assumption); ((with_reducible refine (right_true v3 v1 _ _ _ (hW3.same hh) (hW1.same hh) HDE.out).mono ?_); rintro e w' ⟨rfl, hs'⟩; have hh' := Same.trans hh hs'))
      | (go_at_call 12; have hh : Same w4 _ := (by assumption); refine (known_any _).mono ?_; rintro e w' ⟨rfl, hs'⟩; have hh' := Same.trans hh hs'))
    all_goals
      have hh : Same w4 _ := (by assumption)
      go_wp2
      go_ret
      exact ⟨rfl, Same.trans hS0 hh⟩
  · have hne : eqB (crcDigest (crcSum bs)) (crcDigest (crcSum (bs ++ [UInt8.ofNat c.toNat]))) = false := eqB_false fun e => hde e.symm
    have HDE := Lib.hid hde
    clear hde
    go_wp2_with fail
    go_region_held3 (fun w' => Same w4 w') (first | assumption | exact (Upd.refl _ _).drew) (first
      | (go_at_call 16; have hh : Same w4 _ := (by assumption); ((with_reducible refine (right_true v v1 _ _ _ (hW0.same hh) (hW1.same hh) rfl).mono ?_); rintro e w' ⟨rfl, hs'⟩; have hh' := Same.trans hh hs'))
      | (go_at_call 16; have hh : Same w4 _ := (by assumption); ((with_reducible refine (right_true v3 v4 _ _ _ (hW3.same hh) (hW4.same hh) rfl).mono ?_); rintro e w' ⟨rfl, hs'⟩; have hh' := Same.trans hh hs'))
      | (go_at_call 16; have hh : Same w4 _ := (by assumption); ((with_reducible refine (right_false v3 v1 _ _ _ (hW3.same hh) (hW1.same hh) HDE.out).mono ?_); rintro e w' ⟨rfl, hs'⟩; have hh' := Same.trans hh hs'))
      | (go_at_call 12; have hh : Same w4 _ := (by assumption); refine (known_any _).mono ?_; rintro e w' ⟨rfl, hs'⟩; have hh' := Same.trans hh hs'))
    all_goals
      have hh : Same w4 _ := (by assumption)
      go_wp2
      go_ret
      exact ⟨rfl, Same.trans hS0 hh⟩
end Go.Proofs.Ythchmjehcdjpgaa
