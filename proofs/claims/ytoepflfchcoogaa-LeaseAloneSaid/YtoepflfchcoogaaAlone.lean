/- LeaseAlone: the law's ticks; the plain law. -/
import Derived.Test.YtoepflfchcoogaaWorK
import Derived.Test.YtoepflfchcoogaaLeaseP
import Derived.Test.YtoepflfchcoogaaCount
import Derived.Test.YtoepflfchcoogaaOpenI
namespace Go.Proofs.Ytoepflfchcoogaa
open Go.RowKit
set_option linter.unusedVariables false
set_option linter.unusedSimpArgs false
attribute [local go_sem ↓] Go.wp_at_zero Go.wp_at_succ
/-- What many ticks leave. -/
def TickedAll (w0 W : World) (p : Nat) (s : WrS) (cs : List Int) (cs' : List Int) (W' : World) : Prop :=
  Clk w0 W' p s cs' ∧ Upd (fun k => room s.vc = some k) W W' ∧ cs'.length = cs.length ∧ ∀ j, cs.getD j 0 ≤ cs'.getD j 0
theorem ticks_any {w0 W : World} {p : Nat} {s : WrS} {cs : List Int} (h : Clk w0 W p s cs) {v : Value} {zs : List Int} (hz : NumsAt w0 v zs) :
    Calls Try.prog 31 #[.pointer (some ⟨p, 0, none⟩), v] W fun e w' => e = .returned (.tuple #[]) ∧ ∃ cs', TickedAll w0 W p s cs cs' w' := by
  obtain ⟨A, cap, rfl, h1, h2, -⟩ := id hz
  have HZ := Lib.hid hz
  obtain ⟨N, hN⟩ : ∃ N, N = zs.length := ⟨_, rfl⟩
  rw [← hN] at h1 ⊢
  have HN := Lib.hid hN
  have H0 : Hid (TickedAll w0 W p s cs cs W) := Lib.hid ⟨h, Upd.refl _ _, rfl, fun j => by omega⟩
  clear hz hN h
  go_enter Try.func31, Try.ntmps31
  go_wp2_with fail
  go_loopw [4] (fun v4 wr => ∃ k : Nat, k ≤ N ∧ k ≤ 300 ∧ v4 = .int .i64 k ∧ Hid (∃ cs', TickedAll w0 W p s cs cs' wr)) (fun v4 _ => N - (intOf v4).toNat)
  case atStart => exact ⟨0, by omega, by omega, rfl, Lib.hid ⟨_, H0.out⟩⟩
  case round =>
    obtain ⟨k, hk, hk3, rfl, hT⟩ := hrel
    by_cases hlt : k < N ∧ k < 300
    · obtain ⟨hlt1, hlt2⟩ := hlt
      have g1 : (k : Int) < (N : Int) := by omega
      have g2 : (k : Int) < 300 := by omega
      obtain ⟨cs1, t1, t2, t3, t4⟩ := hT.out
      obtain ⟨A', cap', e0, _, _, hcells⟩ := HZ.out.same t1.2.2.2.2.2.2
      injection e0 with e1 e2 e3
      subst e1
      obtain ⟨b, off, rfl, c0, r0⟩ := hcells k (by have := HN.out; omega)
      generalize zs.getD k 0 = z at c0 r0
      have HC := Lib.hid (count_any z 2 wr (by decide) (by decide) r0.1 r0.2)
      have HT1 := Lib.hid (tick_o t1 (z % 2))
      have HTT := Lib.hid (And.intro t2 (And.intro t3 t4))
      generalize z % 2 = z2 at HC HT1
      clear hcells t1 t2 t3 t4 hT e2 e3
      go_wp2_with fail
      refine HC.out.mono ?_
      rintro e w1 ⟨rfl, rfl⟩
      go_wp2_with fail
      refine HT1.out.mono ?_
      rintro e w2 ⟨c, cs2, rfl, hT2⟩
      have HT2 : Hid (∃ cs', TickedAll w0 W p s cs cs' w2) := Lib.hid ⟨cs2, hT2.1, Upd.trans HTT.out.1 hT2.2.1 (fun _ _ h => h), hT2.length.trans HTT.out.2.1, fun j => Int.le_trans (HTT.out.2.2 j) (hT2.mono j)⟩
      clear hT2
      go_wp2_with fail
      go_roundw
      case rel => exact ⟨k + 1, by omega, by omega, by go_num, HT2⟩
      case measure => simp [intOf]; omega
    · have h1 : (k < N ∧ k = 300) ∨ N = k := by omega
      rcases h1 with ⟨h1, rfl⟩ | rfl
      · have g1 : (300 : Int) < (N : Int) := by omega
        go_wp2_with fail
        go_end0
        exact ⟨rfl, hT.out⟩
      · go_wp2_with fail
        go_end0
        exact ⟨rfl, hT.out⟩
/-- The plain law. -/
theorem alone_law {least rho s0 c0 c1 heard c0h : Int} (hh : holdsL (least - 2 * rho) [(1, s0)] 1 c0 = true) (h1 : c1 - c0 ≤ rho) (h2 : c0h - heard ≤ rho) (h3 : s0 ≤ c0h) (h4 : 0 ≤ s0) : c1 - heard < least := by
  have hf : findL [(1, s0)] 1 = (1, s0) := by simp [findL]
  unfold holdsL untilL at hh
  rw [hf] at hh
  have hh := of_decide_eq_true hh
  simp at hh
  split at hh <;> omega
theorem sent_first (t : Int) (h0 : 0 ≤ t) (h1 : t ≤ 1099511627776) : sentL [] 1 t = (0, [(1, t)]) := by
  unfold sentL
  rw [if_neg (by omega)]
  rfl
end Go.Proofs.Ytoepflfchcoogaa
