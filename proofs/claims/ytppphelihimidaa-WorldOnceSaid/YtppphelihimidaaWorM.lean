/- The world's clocks: slices.Min, alone. -/
import Derived.Test.YtppphelihimidaaWorC
namespace Go.Proofs.Ytppphelihimidaa
open Go.RowKit
set_option linter.unusedVariables false
set_option linter.unusedSimpArgs false
attribute [local go_sem ↓] Go.wp_at_zero Go.wp_at_succ
/-- The least of the first k. -/
def minTo (cs : List Int) (k : Nat) : Int := (cs.take k).foldl min (cs.getD 0 0)
theorem minTo_one (cs : List Int) (h : 0 < cs.length) : minTo cs 1 = cs.getD 0 0 := by
  cases cs with
  | nil => simp at h
  | cons c cs => simp [minTo]
theorem minTo_succ (cs : List Int) (k : Nat) (h : k < cs.length) : minTo cs (k + 1) = min (minTo cs k) (cs.getD k 0) := by
  unfold minTo
  rw [List.take_succ_eq_append_getElem h, List.foldl_append, List.getD_eq_getElem?_getD (i := k), List.getElem?_eq_getElem h]
  rfl
theorem minTo_le (cs : List Int) : ∀ (k : Nat), k ≤ cs.length → 0 < cs.length → (∀ j, j < k → minTo cs k ≤ cs.getD j 0) ∧ ((∃ j, j < cs.length ∧ minTo cs k = cs.getD j 0))
  | 0, _, h0 => ⟨fun j hj => by omega, 0, h0, by simp [minTo]⟩
  | k + 1, hk, h0 => by
    obtain ⟨h1, j, hj, h2⟩ := minTo_le cs k (by omega) h0
    rw [minTo_succ cs k (by omega)]
    refine ⟨fun i hi => ?_, ?_⟩
    · by_cases hik : i = k
      · subst hik; omega
      · have := h1 i (by omega); omega
    · by_cases hm : minTo cs k ≤ cs.getD k 0
      · exact ⟨j, hj, by rw [← h2]; omega⟩
      · exact ⟨k, by omega, by omega⟩
section
variable {W : World} {p : Nat} {s : WrS} {cs : List Int}
theorem min_any {v : Value} (hv : Rdr W v 1 (cs.map nC)) (h0 : 0 < cs.length) (hlen : cs.length ≤ 100) :
    Calls Try.prog 30 #[v] W fun e w' => e = .returned (.int .i64 (minTo cs cs.length)) ∧ w' = W := by
  obtain ⟨A, cap, rfl, h1, h2⟩ := Rdr.open_ hv
  have HV := Lib.hid (fun k hk => Rdr.num hv k hk)
  obtain ⟨b, off, rfl, x00⟩ := Rdr.num hv 0 h0
  obtain ⟨N, hN⟩ : ∃ N, N = cs.length := ⟨_, rfl⟩
  have HM := Lib.hid (minTo_one cs h0)
  rw [show cs.length = N from hN.symm] at hlen h1 h0 ⊢
  have HN := Lib.hid hN
  generalize hx0 : cs.getD 0 0 = y0 at x00 HM
  have g0 : ¬ ((N : Int) < 1) := by omega
  have g00 : ¬ N = 0 := by omega
  rw [Nat.add_zero] at x00
  clear hN hv hx0
  go_enter Try.func30, Try.ntmps30
  go_wp2_with fail
  go_loop [3, 4] (fun v3 v4 => ∃ k : Nat, 1 ≤ k ∧ k ≤ N ∧ v4 = .int .i64 k ∧ ∃ y, v3 = .int .i64 y ∧ Hid (y = minTo cs k)) (fun _ v4 => N - (intOf v4).toNat)
  case atStart => exact ⟨1, by omega, by omega, rfl, _, rfl, HM.out.symm⟩
  case round =>
    obtain ⟨k, hk1, hk, rfl, y, rfl, hy⟩ := hrel
    by_cases hlt : k < N
    · have hkl : k < cs.length := by have := HN.out; omega
      obtain ⟨b', off', e, x0⟩ := HV.out k hkl
      injection e with e
      injection e with e1 e2
      subst e1 e2
      have g1 : (k : Int) < (N : Int) := by omega
      have HS := Lib.hid (minTo_succ cs k hkl)
      generalize cs.getD k 0 = z at x0 HS
      go_wp2_with fail
      go_round
      case rel => exact ⟨k + 1, by omega, by omega, by go_num, _, rfl, Lib.hid (by rw [HS.out, ← hy.out]; split <;> omega)⟩
      case measure => simp [intOf]; omega
    · obtain rfl : k = N := by omega
      go_wp2_with fail
      go_ret
      exact ⟨ret_int hy.out, rfl⟩
/-- Is a clock the only one that is so far behind? -/
def AloneOk (cs : List Int) (rho : Int) (i : Nat) : Prop := ∀ j, j < cs.length → j ≠ i → cs.getD i 0 + 1 - rho ≤ cs.getD j 0
/-- The clocks are in their bounds. -/
def CkOk (cs : List Int) (rho : Int) : Prop := 1 ≤ rho ∧ rho ≤ 1000 ∧ 1 ≤ cs.length ∧ cs.length ≤ 5 ∧ ∀ j, 0 ≤ cs.getD j 0 ∧ cs.getD j 0 ≤ 1099511627776
theorem row_at (hc : WC W p s) (hr : Rdr W s.vc 1 (cs.map nC)) (i : Nat) (hi : i < cs.length) : ∃ b off cap, s.vc = .slice (some ⟨b, off, none⟩) cs.length cap ∧ W.cell? ⟨p, 3, none⟩ = some (.slice (some ⟨b, off, none⟩) cs.length cap) ∧ (∀ k, k < cs.length → W.cell? ⟨b, off + k, none⟩ = some (.int .i64 (cs.getD k 0))) ∧ cap ≤ 9223372036854775807 ∧ cs.length ≤ cap := by
  obtain ⟨A, cap, hv, h1, h2⟩ := Rdr.open_ hr
  rw [hv] at hr
  obtain ⟨b, off, rfl, c⟩ := Rdr.num hr i hi
  refine ⟨b, off, cap, hv, by rw [← hv]; exact hc.1.2.2.2.1, fun k hk => ?_, h2, h1⟩
  obtain ⟨b', off', e, c'⟩ := Rdr.num hr k hk
  injection e with e
  injection e with e1 e2
  subst e1 e2
  exact c'
/-- The answer is whether something is true. -/
def Says (Q : Prop) (e : Ending) : Prop := ∃ r : Bool, e = .returned (.bool r) ∧ (r = true ↔ Q)
theorem Says.yes {Q : Prop} (h : Q) : Says Q (.returned (.bool true)) := ⟨true, rfl, fun _ => h, fun _ => rfl⟩
theorem Says.no {Q : Prop} (h : ¬ Q) : Says Q (.returned (.bool false)) := ⟨false, rfl, (fun e => by cases e), fun k => absurd k h⟩
theorem alone_any (hc : WC W p s) (hr : Rdr W s.vc 1 (cs.map nC)) (hok : CkOk cs s.rho) (i : Nat) (hi : i < cs.length) :
    Calls Try.prog 31 #[.pointer (some ⟨p, 0, none⟩), .int .i64 i] W fun e w' => Says (AloneOk cs s.rho i) e ∧ ∃ n, w' = W.drewN n := by
  obtain ⟨b, off, cap, hv, x3, hcl, hcp, hlc⟩ := row_at hc hr i hi
  have x0 := hc.1.1
  obtain ⟨o1, o2, o3, o4, o5⟩ := hok
  have HI := Lib.hid (o5 i)
  have hci := hcl i hi
  have HC := Lib.hid hcl
  obtain ⟨N, hN⟩ : ∃ N, N = cs.length := ⟨_, rfl⟩
  rw [← hN] at hi o3 o4 x3 hlc
  have HN := Lib.hid hN
  obtain ⟨z, hz⟩ : ∃ z, z = cs.getD i 0 := ⟨_, rfl⟩
  rw [← hz] at hci HI
  have HZ := Lib.hid hz
  generalize hrho : s.rho = rho at o1 o2 x0 ⊢
  obtain ⟨i1, i2⟩ := HI.out
  have g1 : (i : Int) < (N : Int) := by omega
  have H5 := Lib.hid o5
  clear hcl hc hr hv hN hz hrho o5
  go_enter Try.func31, Try.ntmps31
  go_wp2_with fail
  go_quiet (fail)
  rename_i nq
  go_wp2_with fail
  go_loop [26] (fun v26 => ∃ k : Nat, k ≤ N ∧ v26 = .int .i64 k ∧ Hid (∀ j, j < k → j ≠ i → cs.getD i 0 + 1 - rho ≤ cs.getD j 0)) (fun v26 => N - (intOf v26).toNat)
  case atStart => exact ⟨0, by omega, rfl, fun j hj => by omega⟩
  case round =>
    obtain ⟨k, hk, rfl, hno⟩ := hrel
    by_cases hlt : k < N
    · have hkl : k < cs.length := by have := HN.out; omega
      have y0 := HC.out k hkl
      obtain ⟨y1, y2⟩ := H5.out k
      obtain ⟨y, hy⟩ : ∃ y, y = cs.getD k 0 := ⟨_, rfl⟩
      rw [← hy] at y0 y1 y2
      have HY := Lib.hid hy
      clear hy
      have g2 : (k : Int) < (N : Int) := by omega
      by_cases hki : k = i
      · subst hki
        go_wp2_with fail
        go_round
        case rel =>
          refine ⟨k + 1, by omega, by go_num, fun j hj hji => hno.out j (by omega) hji⟩
        case measure => simp [intOf]; omega
      · have g3 : ((k : Int) == (i : Int)) = false := by simp; omega
        have g4 : ((k : Int) != (i : Int)) = true := by simp; omega
        by_cases hyz : y < z + 1 - rho
        · go_wp2_with fail
          go_ret
          exact ⟨Says.no fun h => by have := h k hkl hki; rw [← HY.out, ← HZ.out] at this; omega, _, rfl⟩
        · go_wp2_with fail
          go_round
          case rel =>
            refine ⟨k + 1, by omega, by go_num, fun j hj hji => ?_⟩
            by_cases hjk : j = k
            · subst hjk; rw [← HY.out, ← HZ.out]; omega
            · exact hno.out j (by omega) hji
          case measure => simp [intOf]; omega
    · obtain rfl : N = k := by omega
      go_wp2_with fail
      go_ret
      exact ⟨Says.yes fun j hj hji => hno.out j (by have := HN.out; omega) hji, _, rfl⟩
theorem alone_val (hc : WC W p s) (hr : Rdr W s.vc 1 (cs.map nC)) (hok : CkOk cs s.rho) (i : Nat) (hi : i < cs.length) (r : Bool) (hq : r = true ↔ AloneOk cs s.rho i) :
    Calls Try.prog 31 #[.pointer (some ⟨p, 0, none⟩), .int .i64 i] W fun e w' => e = .returned (.bool r) ∧ ∃ n, w' = W.drewN n := by
  refine (alone_any hc hr hok i hi).mono ?_
  rintro e w' ⟨⟨r', rfl, h⟩, n, rfl⟩
  refine ⟨?_, n, rfl⟩
  have : r' = r := by
    cases r' <;> cases r <;> simp_all
  rw [this]
end
end Go.Proofs.Ytppphelihimidaa
