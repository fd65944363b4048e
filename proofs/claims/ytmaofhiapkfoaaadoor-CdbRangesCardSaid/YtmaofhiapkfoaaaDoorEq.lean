/- slices.Equal of bytes: cut out of XDigest for the seats without sums. -/
import Derived.Test.YtmaofhiapkfoaaaDoorRowsB
import Derived.Lib.Hide
import Derived.Deep.QuietTactic
import Derived.BigQuiet
namespace Go.Proofs.YtmaofhiapkfoaaaDoor
open Go.RowKit
set_option linter.unusedVariables false
set_option linter.unusedSimpArgs false

theorem at8_eq {xs ys : List UInt8} (hl : xs.length = ys.length) (h : ∀ j, j < xs.length → at8 xs j = at8 ys j) : xs = ys := by
  apply List.ext_getElem hl
  intro j h1 h2
  have := h j h1
  unfold at8 at this
  rw [List.getD_eq_getElem?_getD, List.getD_eq_getElem?_getD, List.getElem?_eq_getElem h1, List.getElem?_eq_getElem h2] at this
  apply UInt8.toNat_inj.1
  simpa [← Int.ofNat_inj] using this

/-- Nothing but orders drawn. -/
def Drew (w w' : World) : Prop := ∃ n, w' = w.drewN n
theorem Drew.refl (w : World) : Drew w w := ⟨0, rfl⟩
theorem Drew.step {w w' : World} (h : Drew w w') (n : Nat) : Drew w (w'.drewN n) := by
  obtain ⟨m, rfl⟩ := h
  exact ⟨m + n, World.drewN_drewN ..⟩
theorem Drew.same {w w' : World} (h : Drew w w') : Same w w' := by
  obtain ⟨n, rfl⟩ := h
  exact (Upd.refl _ w).drewN n
theorem Drew.quiet {P : Program} {f : FuncId} {args : Array Value} {w : World} {n : Nat} {v : Value}
    (h : Calls P f args (w.drewN n) fun e w' => e = .returned v ∧ Drew (w.drewN n) w') : Calls P f args (w.drewN n) fun e w'' => e = .returned v ∧ ∃ m, w'' = w.drewN m :=
  Calls.quiet_of (h.mono fun _ _ ⟨he, hm⟩ => ⟨he, hm⟩)
theorem eq_of_at {xs ys : List UInt8} {n : Nat} (hn : n = xs.length) (hl : xs.length = ys.length) (h : ∀ i, i < n → at8 xs i = at8 ys i) : true = eqB xs ys := by
  unfold eqB
  rw [at8_eq hl fun j hj => h j (by omega)]
  simp
theorem ne_of_at {xs ys : List UInt8} {k : Nat} (h : at8 xs k ≠ at8 ys k) : false = eqB xs ys := by
  unfold eqB
  symm
  rw [decide_eq_false_iff_not]
  intro e
  rw [e] at h
  exact h rfl

theorem equal_any (b off cap b' off' cap' : Nat) (xs ys : List UInt8) (w : World) (hl : xs.length = ys.length) (hm : xs.length ≤ 9223372036854775807) (hx : BytesAt w b off xs) (hy : BytesAt w b' off' ys) :
    Calls Tryd.prog 39 #[.slice (some ⟨b, off, none⟩) xs.length cap, .slice (some ⟨b', off', none⟩) ys.length cap'] w fun e w' => e = .returned (.bool (eqB xs ys)) ∧ Drew w w' := by
  obtain ⟨n, hn⟩ : ∃ n, n = xs.length := ⟨_, rfl⟩
  rw [← hl, ← hn]
  rw [← hn] at hm
  have HN := Lib.hid hn
  have HL := Lib.hid hl
  clear hn hl
  go_enter Tryd.func39, Tryd.ntmps39
  go_wp2
  go_loopw [13] (fun i wr => ∃ k : Nat, k ≤ n ∧ i = .int .i64 k ∧ Drew w wr ∧ Hid (∀ j, j < k → at8 xs j = at8 ys j)) (fun i _ => n - (intOf i).toNat)
  case atStart => exact ⟨0, by omega, rfl, Drew.refl w, fun _ h => by omega⟩
  case round =>
    obtain ⟨k, hk, rfl, hd, hj⟩ := hrel
    by_cases hlt : k < n
    · have hc1 : wr.cell? ⟨b, off + k, none⟩ = some (.int .u8 (at8 xs k)) := hd.same.cell (hx k (by rw [← HN.out]; exact hlt)) id
      have hc2 : wr.cell? ⟨b', off' + k, none⟩ = some (.int .u8 (at8 ys k)) := hd.same.cell (hy k (by rw [← HL.out, ← HN.out]; exact hlt)) id
      have h1 := at8_range xs k
      have h2 := at8_range ys k
      have h3 : (k : Int) < (n : Int) := by omega
      clear hx hy
      go_wp2
      go_quiet (fail)
      go_wp2
      · have h4 : (at8 xs k != at8 ys k) = true := by assumption
        go_ret
        exact ⟨ret_bool (ne_of_at (by simpa using h4)), hd.step nq⟩
      · have h4 : (at8 xs k != at8 ys k) = false := by assumption
        go_roundw
        case rel => exact ⟨k + 1, by omega, by go_num, hd.step nq, fun j hj' => by
          rcases Nat.lt_or_ge j k with h | h
          · exact hj.out j h
          · have : j = k := by omega
            subst this
            simpa using h4⟩
        case measure => simp [intOf]; omega
    · go_wp2
      go_ret
      exact ⟨ret_bool (eq_of_at HN.out HL.out fun j hj' => hj.out j (by omega)), hd⟩

theorem equal_empty (A A' : Option Addr) (cap cap' : Nat) (w : World) :
    Calls Tryd.prog 39 #[.slice A 0 cap, .slice A' 0 cap'] w fun e w' => e = .returned (.bool true) ∧ Drew w w' := by
  go_enter Tryd.func39, Tryd.ntmps39
  go_wp2
  refine wp_loop_rounds 1 ?_
  rw [rounds_succ]
  go_wp2
  go_ret
  exact ⟨rfl, Drew.refl w⟩
theorem equal_unlike (A A' : Option Addr) (n n' cap cap' : Nat) (w : World) (h : n ≠ n') :
    Calls Tryd.prog 39 #[.slice A n cap, .slice A' n' cap'] w fun e w' => e = .returned (.bool false) ∧ Drew w w' := by
  have h1 : (n == n') = false := by simpa using h
  have h2 : (n != n') = true := by simpa using h
  have h3 : ((n : Int) != (n' : Int)) = true := by simp; omega
  have h4 : ((n : Int) == (n' : Int)) = false := by simp; omega
  clear h
  go_enter Tryd.func39, Tryd.ntmps39
  go_wp2
  go_ret
  exact ⟨rfl, Drew.refl w⟩
/-- slices.Equal of bytes. -/
theorem equal_bs (v v' : Value) (xs ys : List UInt8) (w : World) (hx : Bs w v xs) (hy : Bs w v' ys) :
    Calls Tryd.prog 39 #[v, v'] w fun e w' => e = .returned (.bool (eqB xs ys)) ∧ Drew w w' := by
  by_cases hl : xs.length = ys.length
  · rcases hx.cases with ⟨rfl, A, cap, rfl, h1⟩ | ⟨h0, b, off, cap, rfl, h1, h2, h3⟩
    · rcases hy.cases with ⟨rfl, A', cap', rfl, h1'⟩ | ⟨h0', b', off', cap', rfl, h1', h2', h3'⟩
      · rw [eqB_self]
        exact equal_empty A A' cap cap' w
      · have : ([] : List UInt8).length = 0 := rfl; omega
    · rcases hy.cases with ⟨rfl, A', cap', rfl, h1'⟩ | ⟨h0', b', off', cap', rfl, h1', h2', h3'⟩
      · have : ([] : List UInt8).length = 0 := rfl; omega
      · exact equal_any b off cap b' off' cap' xs ys w hl (by omega) h3 h3'
  · obtain ⟨A, cap, rfl, _⟩ := hx
    obtain ⟨A', cap', rfl, _⟩ := hy
    have hd : eqB xs ys = false := by
      unfold eqB
      rw [decide_eq_false_iff_not]
      intro e
      exact hl (by rw [e])
    rw [hd]
    exact equal_unlike A A' _ _ cap cap' w hl
end Go.Proofs.YtmaofhiapkfoaaaDoor
