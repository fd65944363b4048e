/- The world's clocks: there, Clock, slices.Min, alone, May, Tick, New. -/
import Derived.Test.YtppphelihimidaaWorO
import Derived.Deep.QuietTactic
import Derived.BigQuiet
import Derived.Deep.DrawnRows
namespace Go.Proofs.Ytppphelihimidaa
open Go.RowKit
set_option linter.unusedVariables false
set_option linter.unusedSimpArgs false
attribute [local go_sem ↓] Go.wp_at_zero Go.wp_at_succ
section
variable {W : World} {p : Nat} {s : WrS} {cs : List Int}
theorem there1_any (i : Int) (b : Nat) (hb : W.cell? ⟨b, 0, none⟩ = some (.pointer (some ⟨p, 0, none⟩))) (hc : WC W p s) (hr : Rdr W s.vc 1 (cs.map nC)) :
    Calls Try.prog 53 #[.int .i64 i, .pointer (some ⟨b, 0, none⟩)] W fun e w' => e = .returned (.bool (outB cs.length i)) ∧ w' = W := by
  obtain ⟨A, cap, hv, h1, h2⟩ := Rdr.open_ hr
  obtain ⟨⟨c0, c1, c2, c3, c4, c5, c6, c7, c8, c9⟩, hf⟩ := hc
  rw [hv] at c3
  clear hf hr hv
  by_cases h0 : i < 0
  · have hq := Lib.hid (outB_yes (n := cs.length) (i := i) (.inl h0))
    go_enter Try.func53, Try.ntmps53
    go_wp2
    go_ret
    exact ⟨ret_bool hq.out.symm, rfl⟩
  · by_cases h3 : (cs.length : Int) ≤ i
    · have hq := Lib.hid (outB_yes (n := cs.length) (i := i) (.inr h3))
      go_enter Try.func53, Try.ntmps53
      go_wp2
      go_ret
      exact ⟨ret_bool hq.out.symm, rfl⟩
    · have hq := Lib.hid (outB_no (n := cs.length) (i := i) (by omega) (by omega))
      go_enter Try.func53, Try.ntmps53
      go_wp2
      go_ret
      exact ⟨ret_bool hq.out.symm, rfl⟩
theorem tidx_any (hc : WC W p s) (hr : Rdr W s.vc 1 (cs.map nC)) (b : Nat) (hb : W.cell? ⟨b, 0, none⟩ = some (.pointer (some ⟨p, 0, none⟩))) {v : Value} {xs : List Int} (hv : Rdr W v 1 (xs.map nC)) (hlen : xs.length ≤ 100) :
    Calls Try.prog 62 #[v, .func (.func 53) #[] #[.pointer (some ⟨b, 0, none⟩)]] W fun e w' => e = .returned (.int .i64 (fIdx (outB cs.length) xs)) ∧ w' = W := by
  have HF := Lib.hid (fun i => there1_any (cs := cs) i b hb hc hr)
  generalize hg : outB cs.length = g
  rw [hg] at HF
  obtain ⟨A, cap, rfl, h1, h2⟩ := Rdr.open_ hv
  have HV := Lib.hid (fun k hk => Rdr.num hv k hk)
  obtain ⟨N, hN⟩ : ∃ N, N = xs.length := ⟨_, rfl⟩
  rw [show xs.length = N from hN.symm] at hlen h1 ⊢
  have HN := Lib.hid hN
  clear hN hv hc hr hb hg
  go_enter Try.func62, Try.ntmps62
  go_wp2_with fail
  go_loop [8] (fun v8 => ∃ k : Nat, k ≤ N ∧ v8 = .int .i64 k ∧ Hid (∀ j (hj : j < xs.length), j < k → g (xs.getD j 0) = false)) (fun v8 => N - (intOf v8).toNat)
  case atStart => exact ⟨0, by omega, rfl, fun j hj h => by omega⟩
  case round =>
    obtain ⟨k, hk, rfl, hno⟩ := hrel
    by_cases hlt : k < N
    · have hkl : k < xs.length := by have := HN.out; omega
      obtain ⟨b', off, rfl, x0⟩ := HV.out k hkl
      have g1 : (k : Int) < (N : Int) := by omega
      have hf := HF.out (xs.getD k 0)
      by_cases he : g (xs.getD k 0) = true
      · have HI := Lib.hid (fIdx_some g xs k hkl he hno.out)
        rw [he] at hf
        generalize xs.getD k 0 = y at x0 hf
        have HY := Lib.hid hf
        clear hf he
        go_wp2_with fail
        refine HY.out.mono ?_
        rintro r w1 ⟨rfl, rfl⟩
        go_wp2_with fail
        go_ret
        exact ⟨ret_int HI.out.symm, rfl⟩
      · have he2 : g (xs.getD k 0) = false := by simpa using he
        have HE := Lib.hid he2
        rw [he2] at hf
        generalize hy : xs.getD k 0 = y at x0 hf
        have HY := Lib.hid hf
        clear hf he he2 hy
        go_wp2_with fail
        refine HY.out.mono ?_
        rintro r w1 ⟨rfl, rfl⟩
        go_wp2_with fail
        go_round
        case rel =>
          refine ⟨k + 1, by omega, by go_num, fun j hj hjk => ?_⟩
          by_cases hjk2 : j = k
          · subst hjk2; exact HE.out
          · exact hno.out j hj (by omega)
        case measure => simp [intOf]; omega
    · obtain rfl : k = N := by omega
      have HI := Lib.hid (fIdx_none g xs fun j hj => hno.out j hj (by have := HN.out; omega))
      go_wp2_with fail
      go_ret
      exact ⟨ret_int HI.out.symm, rfl⟩
theorem there_any (hc : WC W p s) (hr : Rdr W s.vc 1 (cs.map nC)) {v : Value} {xs : List Int} (hv : Rdr W v 1 (xs.map nC)) (hlen : xs.length ≤ 100) :
    Calls Try.prog 29 #[.pointer (some ⟨p, 0, none⟩), v] W fun e w' => e = .returned (.bool (thereL cs.length xs)) ∧ Same W w' := by
  have hs := (Upd.refl (fun _ => False) W).alloc (.cells #[.pointer (some ⟨p, 0, none⟩)] 24)
  have hb := cell_of_row (W.alloc (.cells #[.pointer (some ⟨p, 0, none⟩)] 24)) W.heap.size 0 _ _ (0, 0) (heap_alloc_new W _)
  have HI := Lib.hid (tidx_any (hc.upd hs (fun h => h)) (hr.same hs) W.heap.size hb (hv.same hs) hlen)
  have HS := Lib.hid hs
  unfold thereL
  generalize fIdx (outB cs.length) xs = I at HI ⊢
  clear hs hb hc hr hv
  go_enter Try.func29, Try.ntmps29
  go_wp2_with ((go_at_call 52; go_in))
  refine HI.out.mono ?_
  rintro r w1 ⟨rfl, rfl⟩
  go_wp2_with fail
  go_ret
  exact ⟨rfl, HS.out⟩
theorem clock_yes (hc : WC W p s) (hr : Rdr W s.vc 1 (cs.map nC)) (i : Nat) (hi : i < cs.length) (hlen : cs.length ≤ 100) :
    Calls Try.prog 9 #[.pointer (some ⟨p, 0, none⟩), .int .i64 i] W fun e w' => e = .returned (.int .i64 (cs.getD i 0)) ∧ Same W w' := by
  have hs := (Upd.refl (fun _ => False) W).alloc (.cells #[.int .i64 i] 3)
  have hx := Rdr.box W [nC i] 3 (0, 0) W.heap.size rfl 1 rfl
  have hth := there_any (hc.upd hs (fun h => h)) (hr.same hs) (xs := [(i : Int)]) hx (by simp)
  rw [thereL_one, outB_no (by omega) (by omega)] at hth
  obtain ⟨b, off, hA⟩ : ∃ b off, ∃ cap, s.vc = .slice (some ⟨b, off, none⟩) cs.length cap ∧ W.cell? ⟨b, off + i, none⟩ = some (.int .i64 (cs.getD i 0)) := by
    obtain ⟨A, cap, hv, h1, h2⟩ := Rdr.open_ hr
    rw [hv] at hr
    obtain ⟨b, off, rfl, c⟩ := Rdr.num hr i hi
    exact ⟨b, off, cap, hv, c⟩
  obtain ⟨cap, hv, x0⟩ := hA
  have HW := Lib.hid (fun w' (h : Same W w') => And.intro (hc.upd h (fun h => h)) (h.cell x0 (fun h => h)))
  have HT := Lib.hid hth
  have HS := Lib.hid hs
  have HV := Lib.hid hv
  generalize cs.getD i 0 = y at HW x0 ⊢
  have g1 : (i : Int) < (cs.length : Int) := by omega
  clear hs hx hth hc hr hv x0
  go_enter Try.func9, Try.ntmps9
  go_wp2_with fail
  refine HT.out.mono ?_
  rintro r w1 ⟨rfl, hs1⟩
  have hs2 := Same.trans HS.out hs1
  obtain ⟨⟨⟨c0, c1, c2, c3, c4, c5, c6, c7, c8, c9⟩, hf⟩, x0⟩ := HW.out w1 hs2
  have HS2 := Lib.hid hs2
  rw [HV.out] at c3
  clear hs1 hs2 hf
  go_wp2_with fail
  go_ret
  exact ⟨rfl, HS2.out⟩
theorem clock_no (hc : WC W p s) (hr : Rdr W s.vc 1 (cs.map nC)) (i : Int) (hi : i < 0 ∨ (cs.length : Int) ≤ i) :
    Calls Try.prog 9 #[.pointer (some ⟨p, 0, none⟩), .int .i64 i] W fun e w' => e = .returned (.int .i64 0) ∧ Same W w' := by
  have hs := (Upd.refl (fun _ => False) W).alloc (.cells #[.int .i64 i] 3)
  have hx := Rdr.box W [nC i] 3 (0, 0) W.heap.size rfl 1 rfl
  have hth := there_any (hc.upd hs (fun h => h)) (hr.same hs) (xs := [i]) hx (by simp)
  rw [thereL_one, outB_yes hi] at hth
  have HT := Lib.hid hth
  have HS := Lib.hid hs
  clear hs hx hth hc hr
  go_enter Try.func9, Try.ntmps9
  go_wp2_with fail
  refine HT.out.mono ?_
  rintro r w1 ⟨rfl, hs1⟩
  have HS2 := Lib.hid (Same.trans HS.out hs1)
  clear hs1
  go_wp2_with fail
  go_ret
  exact ⟨rfl, HS2.out⟩
end
end Go.Proofs.Ytppphelihimidaa
