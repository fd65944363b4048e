/- Sent, Until, Holds of a lease. -/
import Derived.Test.YtoepflfchcoogaaLeaseO
namespace Go.Proofs.Ytoepflfchcoogaa
open Go.RowKit
set_option linter.unusedVariables false
set_option linter.unusedSimpArgs false
attribute [local go_sem ↓] Go.wp_at_zero Go.wp_at_succ

/-- Sent: the answer, and what is remembered then. -/
def sentL (ls : List (Int × Int)) (r t : Int) : Int × List (Int × Int) :=
  if r < 1 ∨ 1152921504606846976 < r ∨ t < 0 ∨ 1099511627776 < t then (1, ls)
  else match ls.getLast? with
    | none => (0, pushL ls (r, t))
    | some x => if r ≤ x.1 ∨ t < x.2 then (5, ls) else (0, pushL ls (r, t))
/-- Until. -/
def untilL (h : Int) (ls : List (Int × Int)) (r : Int) : Int := if findL ls r = (0, 0) ∨ h ≤ 0 then 0 else (findL ls r).2 + h
/-- Holds. -/
def holdsL (h : Int) (ls : List (Int × Int)) (r now : Int) : Bool := decide (findL ls r ≠ (0, 0) ∧ (findL ls r).2 ≤ now ∧ now < untilL h ls r)
/-- What a lease remembers is right. -/
def LOk (ls : List (Int × Int)) : Prop := ls.length ≤ 100 ∧ ∀ x ∈ ls, (1 ≤ x.1 ∧ x.1 ≤ 1152921504606846976) ∧ 0 ≤ x.2 ∧ x.2 ≤ 1099511627776
theorem pushL_mem {ls : List (Int × Int)} {x y : Int × Int} (h : y ∈ pushL ls x) : y ∈ ls ∨ y = x := by
  unfold pushL at h
  split at h
  · simpa using h
  · have := List.mem_of_mem_drop h
    simpa using this
theorem pushL_len (ls : List (Int × Int)) (x : Int × Int) (h : ls.length ≤ 100) : (pushL ls x).length ≤ 100 := by
  unfold pushL
  split
  · simp; omega
  · simp; omega
theorem LOk.sent {ls : List (Int × Int)} (h : LOk ls) (r t : Int) : LOk (sentL ls r t).2 := by
  unfold sentL
  split
  · exact h
  · rename_i hb
    have hp : LOk (pushL ls (r, t)) := ⟨pushL_len _ _ h.1, fun x hx => by
      rcases pushL_mem hx with hx | rfl
      · exact h.2 x hx
      · simp only; omega⟩
    split
    · exact hp
    · split
      · exact h
      · exact hp
theorem findL_mem (ls : List (Int × Int)) (r : Int) : findL ls r = (0, 0) ∨ (findL ls r ∈ ls ∧ (findL ls r).1 ≤ r) := by
  unfold findL
  cases h : ls.reverse.find? fun x => decide (x.1 ≤ r) with
  | none => exact .inl rfl
  | some x =>
    right
    have h1 := List.mem_of_find?_eq_some h
    have h2 := List.find?_some h
    exact ⟨by simpa using h1, by simpa using h2⟩
theorem LOk.find {ls : List (Int × Int)} (h : LOk ls) (r : Int) : findL ls r = (0, 0) ∨ ((1 ≤ (findL ls r).1 ∧ (findL ls r).1 ≤ 1152921504606846976) ∧ 0 ≤ (findL ls r).2 ∧ (findL ls r).2 ≤ 1099511627776) := by
  rcases findL_mem ls r with e | ⟨e, _⟩
  · exact .inl e
  · exact .inr (h.2 _ e)
section
variable {base : Nat} {F : Nat → Prop} {W : World} {p : Nat} {v : Value} {h : Int} {ls : List (Int × Int)}
theorem find_any (hv : LeV base W p v h ls) (hlen : ls.length ≤ 100) (r : Int) : Calls Try.prog 36 #[.pointer (some ⟨p, 0, none⟩), .int .i64 r] W fun e w' => e = .returned (.agg #[.int .i64 (findL ls r).1, .int .i64 (findL ls r).2]) ∧ Same W w' := by
  obtain ⟨A, cap, rfl, h1, h2⟩ := SentAt.open_ hv.2.2.1.rdr
  refine (callsIn_wide (n := 3)).1 ((find_in Fence.wide 3 trivial trivial trivial rfl (Nat.le_refl _) p A cap ls (by omega) r W hv.2.1.1.2.1 (SentAt.cells hv.2.2.1.rdr)).mono ?_)
  rintro e w' ⟨rfl, hb⟩
  exact ⟨rfl, Same.of_below hb⟩
theorem until_any (hv : LeV base W p v h ls) (hok : LOk ls) (hh : -2000 ≤ h ∧ h ≤ 1000) (r : Int) : Calls Try.prog 11 #[.pointer (some ⟨p, 0, none⟩), .int .i64 r] W fun e w' => e = .returned (.int .i64 (untilL h ls r)) ∧ Same W w' := by
  have hf := find_any hv hok.1 r
  have hfo := hok.find r
  obtain ⟨X, hX⟩ : ∃ X, X = untilL h ls r := ⟨_, rfl⟩
  have hun : X = if findL ls r = (0, 0) ∨ h ≤ 0 then 0 else (findL ls r).2 + h := hX
  rw [← hX]
  obtain ⟨⟨c0, c1, c2⟩, _⟩ := hv.2.1
  generalize findL ls r = x at hf hfo hun
  obtain ⟨x1, x2⟩ := x
  simp only [Prod.mk.injEq] at hf hfo hun
  have HF := Lib.hid hf
  have HU := Lib.hid hun
  have hp := hv.2.1.lt
  clear hf hun hX hv hok c1 c2
  have hc : (x1 = 0 ∧ x2 = 0) ∨ (1 ≤ x1 ∧ 0 ≤ x2 ∧ x2 ≤ 1099511627776) := by omega
  rcases hc with ⟨rfl, rfl⟩ | ⟨e1, e2, e3⟩
  · go_enter Try.func11, Try.ntmps11
    go_wp2_with fail
    refine HF.out.mono ?_
    rintro e w1 ⟨rfl, hs1⟩
    have HS := Lib.hid hs1
    clear hs1
    go_wp2_with fail
    go_ret
    exact ⟨ret_int (by rw [HU.out]; simp), HS.out.alloc _⟩
  · have g1 : (x1 == 0) = false := by simp; omega
    by_cases hle : h ≤ 0
    · go_enter Try.func11, Try.ntmps11
      go_wp2_with fail
      refine HF.out.mono ?_
      rintro e w1 ⟨rfl, hs1⟩
      have d0 := hs1.cell c0 (fun h => h)
      have hp1 := Nat.lt_of_lt_of_le hp hs1.size
      have HS := Lib.hid hs1
      clear hs1
      go_wp2_with fail
      go_ret
      exact ⟨ret_int (by rw [HU.out, if_pos (.inr hle)]), HS.out.alloc _⟩
    · have hgt : 0 < h := by omega
      go_enter Try.func11, Try.ntmps11
      go_wp2_with fail
      refine HF.out.mono ?_
      rintro e w1 ⟨rfl, hs1⟩
      have d0 := hs1.cell c0 (fun h => h)
      have hp1 := Nat.lt_of_lt_of_le hp hs1.size
      have HS := Lib.hid hs1
      clear hs1
      go_wp2_with fail
      go_quiet (fail)
      go_wp2_with fail
      go_ret
      exact ⟨ret_int (by rw [HU.out, if_neg (by omega)]), (HS.out.alloc _).drewN _⟩
theorem sent_bad (r t : Int) (hbad : r < 1 ∨ 1152921504606846976 < r ∨ t < 0 ∨ 1099511627776 < t) : Calls Try.prog 10 #[.pointer (some ⟨p, 0, none⟩), .int .i64 r, .int .i64 t] W fun e w' => e = .returned (.int .i64 1) ∧ Same W w' := by
  by_cases h1 : r < 1
  · go_enter Try.func10, Try.ntmps10
    go_wp2
    go_ret
    exact ⟨rfl, Upd.refl _ _⟩
  by_cases h2 : 1152921504606846976 < r
  · go_enter Try.func10, Try.ntmps10
    go_wp2
    go_ret
    exact ⟨rfl, Upd.refl _ _⟩
  by_cases h3 : t < 0
  · go_enter Try.func10, Try.ntmps10
    go_wp2
    go_ret
    exact ⟨rfl, Upd.refl _ _⟩
  · have h4 : 1099511627776 < t := by omega
    go_enter Try.func10, Try.ntmps10
    go_wp2
    go_ret
    exact ⟨rfl, Upd.refl _ _⟩
theorem sent_none (hv : LeV base W p v h []) (hb : base ≤ W.heap.size) (r t : Int) (hg : ¬ (r < 1 ∨ 1152921504606846976 < r ∨ t < 0 ∨ 1099511627776 < t)) : Calls Try.prog 10 #[.pointer (some ⟨p, 0, none⟩), .int .i64 r, .int .i64 t] W fun e w' => e = .returned (.int .i64 0) ∧ LGrew base (lfoot p v) W p w' h (pushL [] (r, t)) := by
  have g1 : 1 ≤ r := by omega
  have g2 : r ≤ 1152921504606846976 := by omega
  have g3 : 0 ≤ t := by omega
  have g4 : t ≤ 1099511627776 := by omega
  have HL := Lib.hid (last_none hv)
  have HV := Lib.hid hv
  clear hg hv
  go_enter Try.func10, Try.ntmps10
  go_wp2_with fail
  refine HL.out.mono ?_
  rintro e w1 ⟨rfl, hs1⟩
  have hs2 := hs1.alloc (.cells #[.int .i64 0, .int .i64 0] 71)
  have hv2 := HV.out.upd hs2 (fun _ _ h => h)
  have hz := hs2.size
  have HV2 := Lib.hid hv2
  have HS := Lib.hid hs2
  clear hs1 hs2 hv2
  go_wp2_with fail
  refine (push_any HV2.out (by simp at hz ⊢; omega) (by simp) r t).mono ?_
  rintro e w3 ⟨rfl, hg⟩
  have HG := Lib.hid hg
  clear hg
  go_wp2_with fail
  go_ret
  obtain ⟨F', q1, q2⟩ := HG.out
  exact ⟨rfl, F', q1, Step.trans (Step.same HS.out) q2⟩
theorem sent_late {ini : List (Int × Int)} {x : Int × Int} (hv : LeV base W p v h (ini ++ [x])) (hlen : ini.length ≤ 1000) (r t : Int) (hg : ¬ (r < 1 ∨ 1152921504606846976 < r ∨ t < 0 ∨ 1099511627776 < t)) (hx : r ≤ x.1 ∨ t < x.2) : Calls Try.prog 10 #[.pointer (some ⟨p, 0, none⟩), .int .i64 r, .int .i64 t] W fun e w' => e = .returned (.int .i64 5) ∧ Same W w' := by
  have g1 : 1 ≤ r := by omega
  have g2 : r ≤ 1152921504606846976 := by omega
  have g3 : 0 ≤ t := by omega
  have g4 : t ≤ 1099511627776 := by omega
  have HL := Lib.hid (last_some hv hlen)
  clear hg hv
  obtain ⟨x1, x2⟩ := x
  simp only at hx
  by_cases h1 : r ≤ x1
  · clear hx
    go_enter Try.func10, Try.ntmps10
    go_wp2_with fail
    refine HL.out.mono ?_
    rintro e w1 ⟨rfl, hs1⟩
    have HS := Lib.hid (hs1.alloc (.cells #[.int .i64 x1, .int .i64 x2] 71))
    clear hs1
    go_wp2_with fail
    go_ret
    exact ⟨rfl, HS.out⟩
  · have h2 : t < x2 := by omega
    have h3 : x1 < r := by omega
    clear hx
    go_enter Try.func10, Try.ntmps10
    go_wp2_with fail
    refine HL.out.mono ?_
    rintro e w1 ⟨rfl, hs1⟩
    have HS := Lib.hid (hs1.alloc (.cells #[.int .i64 x1, .int .i64 x2] 71))
    clear hs1
    go_wp2_with fail
    go_ret
    exact ⟨rfl, HS.out⟩
theorem sent_good {ini : List (Int × Int)} {x : Int × Int} (hv : LeV base W p v h (ini ++ [x])) (hb : base ≤ W.heap.size) (hlen : ini.length ≤ 99) (r t : Int) (hg : ¬ (r < 1 ∨ 1152921504606846976 < r ∨ t < 0 ∨ 1099511627776 < t)) (hx : ¬ (r ≤ x.1 ∨ t < x.2)) : Calls Try.prog 10 #[.pointer (some ⟨p, 0, none⟩), .int .i64 r, .int .i64 t] W fun e w' => e = .returned (.int .i64 0) ∧ LGrew base (lfoot p v) W p w' h (pushL (ini ++ [x]) (r, t)) := by
  have g1 : 1 ≤ r := by omega
  have g2 : r ≤ 1152921504606846976 := by omega
  have g3 : 0 ≤ t := by omega
  have g4 : t ≤ 1099511627776 := by omega
  have HL := Lib.hid (last_some hv (by omega))
  have HV := Lib.hid hv
  have hlen2 : (ini ++ [x]).length ≤ 100 := by simp; omega
  have HLEN := Lib.hid hlen2
  obtain ⟨x1, x2⟩ := x
  simp only at hx
  have h1 : x1 < r := by omega
  have h2 : x2 ≤ t := by omega
  generalize ini ++ [(x1, x2)] = ls at HL HV HLEN
  clear hg hv hx hlen hlen2
  go_enter Try.func10, Try.ntmps10
  go_wp2_with fail
  refine HL.out.mono ?_
  rintro e w1 ⟨rfl, hs1⟩
  have hs2 := hs1.alloc (.cells #[.int .i64 x1, .int .i64 x2] 71)
  have hv2 := HV.out.upd hs2 (fun _ _ h => h)
  have hz := hs2.size
  have HV2 := Lib.hid hv2
  have HS := Lib.hid hs2
  clear hs1 hs2 hv2
  go_wp2_with fail
  refine (push_any HV2.out (by simp at hz ⊢; omega) HLEN.out r t).mono ?_
  rintro e w3 ⟨rfl, hg⟩
  have HG := Lib.hid hg
  clear hg
  go_wp2_with fail
  go_ret
  obtain ⟨F', q1, q2⟩ := HG.out
  exact ⟨rfl, F', q1, Step.trans (Step.same HS.out) q2⟩
theorem holds_any (hv : LeV base W p v h ls) (hok : LOk ls) (hh : -2000 ≤ h ∧ h ≤ 1000) (r now : Int) : Calls Try.prog 17 #[.pointer (some ⟨p, 0, none⟩), .int .i64 r, .int .i64 now] W fun e w' => e = .returned (.bool (holdsL h ls r now)) ∧ Same W w' := by
  have hf := find_any hv hok.1 r
  have hfo := hok.find r
  have hun := fun w' (hs : Same W w') => until_any (hv.upd hs (fun _ _ h => h)) hok hh r
  obtain ⟨X, hX⟩ : ∃ X, X = holdsL h ls r now := ⟨_, rfl⟩
  have hho : X = decide (findL ls r ≠ (0, 0) ∧ (findL ls r).2 ≤ now ∧ now < untilL h ls r) := hX
  rw [← hX]
  generalize untilL h ls r = U at hun hho
  generalize findL ls r = x at hf hfo hho
  obtain ⟨x1, x2⟩ := x
  simp only [Prod.mk.injEq] at hf hfo hho
  have HF := Lib.hid hf
  have HU := Lib.hid hun
  have HH := Lib.hid hho
  clear hf hun hX hv hok hho
  have hc : (x1 = 0 ∧ x2 = 0) ∨ (1 ≤ x1 ∧ 0 ≤ x2 ∧ x2 ≤ 1099511627776) := by omega
  rcases hc with ⟨rfl, rfl⟩ | ⟨e1, e2, e3⟩
  · go_enter Try.func17, Try.ntmps17
    go_wp2_with fail
    refine HF.out.mono ?_
    rintro e w1 ⟨rfl, hs1⟩
    have HS := Lib.hid hs1
    clear hs1
    go_wp2_with fail
    go_ret
    exact ⟨ret_bool (by rw [HH.out]; simp), HS.out.alloc _⟩
  · have g1 : (x1 == 0) = false := by simp; omega
    have g2 : (x1 != 0) = true := by simp; omega
    by_cases hle : x2 ≤ now
    · go_enter Try.func17, Try.ntmps17
      go_wp2_with fail
      refine HF.out.mono ?_
      rintro e w1 ⟨rfl, hs1⟩
      have HS := Lib.hid (hs1.alloc (.cells #[.int .i64 x1, .int .i64 x2] 71))
      clear hs1
      go_wp2_with fail
      refine (HU.out _ HS.out).mono ?_
      rintro e w2 ⟨rfl, hs2⟩
      have HS2 := Lib.hid hs2
      clear hs2
      go_wp2_with fail
      go_ret
      exact ⟨ret_bool (by rw [HH.out]; simp [hle, show x1 ≠ 0 by omega]), Same.trans HS.out HS2.out⟩
    · have hgt : now < x2 := by omega
      go_enter Try.func17, Try.ntmps17
      go_wp2_with fail
      refine HF.out.mono ?_
      rintro e w1 ⟨rfl, hs1⟩
      have HS := Lib.hid (hs1.alloc (.cells #[.int .i64 x1, .int .i64 x2] 71))
      clear hs1
      go_wp2_with fail
      go_ret
      exact ⟨ret_bool (by rw [HH.out]; simp; intro _ h; omega), HS.out⟩
end
end Go.Proofs.Ytoepflfchcoogaa
