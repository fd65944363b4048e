/- The lease, in plain words: rounds rise, times do not fall. Its calls by one law; the fixed calls. -/
import Derived.Test.YtoepflfchcoogaaLeaseS
namespace Go.Proofs.Ytoepflfchcoogaa
open Go.RowKit
set_option linter.unusedVariables false
set_option linter.unusedSimpArgs false

/-- Rounds rise, times do not fall. -/
def LSorted (ls : List (Int × Int)) : Prop := ls.Pairwise fun x y => x.1 < y.1 ∧ x.2 ≤ y.2
theorem LSorted.push {ls : List (Int × Int)} (h : LSorted ls) (x : Int × Int) (hx : ∀ y ∈ ls, y.1 < x.1 ∧ y.2 ≤ x.2) : LSorted (pushL ls x) := by
  have h1 : LSorted (ls ++ [x]) := List.pairwise_append.2 ⟨h, List.pairwise_singleton _ _, fun a ha b hb => by
    rw [List.mem_singleton] at hb
    subst hb
    exact hx a ha⟩
  unfold pushL
  split
  · exact h1
  · exact List.Pairwise.sublist (List.drop_sublist 1 _) h1
theorem LSorted.last {ini : List (Int × Int)} {x : Int × Int} (h : LSorted (ini ++ [x])) : ∀ y ∈ ini ++ [x], y.1 ≤ x.1 ∧ y.2 ≤ x.2 := by
  intro y hy
  rcases List.mem_append.1 hy with hy | hy
  · have := (List.pairwise_append.1 h).2.2 y hy x (by simp)
    omega
  · rw [List.mem_singleton] at hy
    subst hy
    exact ⟨Int.le_refl _, Int.le_refl _⟩
theorem getLast_split {ls : List (Int × Int)} : ls = [] ∨ ∃ ini x, ls = ini ++ [x] := by
  rcases List.eq_nil_or_concat ls with h | ⟨ini, x, h⟩
  · exact .inl h
  · exact .inr ⟨ini, x, by simpa using h⟩
/-- What was sent last is the latest. -/
def LLast (ls : List (Int × Int)) (last : Int) : Prop := 0 ≤ last ∧ last ≤ 1099511627776 ∧ ∀ x ∈ ls, x.2 ≤ last
theorem sentL_sorted {ls : List (Int × Int)} {last : Int} (h : LSorted ls) (hl : LLast ls last) (r t : Int) : LSorted (sentL ls r t).2 ∧ LLast (sentL ls r t).2 (if (sentL ls r t).1 = 0 then t else last) := by
  unfold sentL
  split
  · exact ⟨h, hl⟩
  · rename_i hb
    have hpush : ∀ ls', (∀ y ∈ ls', y.1 < r ∧ y.2 ≤ t) → LSorted ls' → LSorted (pushL ls' (r, t)) ∧ LLast (pushL ls' (r, t)) t := fun ls' hy hs => ⟨hs.push _ hy, by omega, by omega, fun x hx => by
      rcases pushL_mem hx with hx | rfl
      · exact (hy x hx).2
      · exact Int.le_refl _⟩
    rcases getLast_split (ls := ls) with rfl | ⟨ini, x, rfl⟩
    · exact hpush [] (by simp) h
    · simp only [List.getLast?_append, List.getLast?_singleton, Option.some_or]
      split
      · exact ⟨h, hl⟩
      · rename_i hx
        exact hpush _ (fun y hy => by have := h.last y hy; omega) h
theorem findL_mono {ls : List (Int × Int)} (h : LSorted ls) (hok : LOk ls) {a b : Int} (hab : a ≤ b) (ha : findL ls a ≠ (0, 0)) : findL ls b ≠ (0, 0) ∧ (findL ls a).2 ≤ (findL ls b).2 := by
  rcases findL_mem ls a with e | ⟨hm, hle⟩
  · exact absurd e ha
  generalize findL ls a = x at ha hm hle
  unfold findL
  have hxr : x ∈ ls.reverse := by simpa using hm
  cases hf : ls.reverse.find? fun x => decide (x.1 ≤ b) with
  | none =>
    have := List.find?_eq_none.1 hf x hxr
    simp at this
    omega
  | some y =>
    obtain ⟨h1, l1, l2, h2, h3⟩ := List.find?_eq_some_iff_append.1 hf
    have hy : y ∈ ls := by
      have : y ∈ ls.reverse := by rw [h2]; simp
      simpa using this
    simp only [Option.getD_some]
    refine ⟨fun e => by have := (hok.2 y hy).1.1; rw [e] at this; simp at this, ?_⟩
    rw [h2] at hxr
    have hpr : (ls.reverse).Pairwise fun u v => v.1 < u.1 ∧ v.2 ≤ u.2 := List.pairwise_reverse.2 h
    rw [h2] at hpr
    rcases List.mem_append.1 hxr with hx | hx
    · have := h3 x hx
      simp at this
      omega
    · rcases List.mem_cons.1 hx with rfl | hx
      · exact Int.le_refl _
      · have := (List.pairwise_append.1 hpr).2.1
        exact ((List.pairwise_cons.1 this).1 x hx).2
/-- A later round holds no shorter, and none is sure for longer than others stay quiet. -/
theorem until_later {ls : List (Int × Int)} {last h least : Int} (hs : LSorted ls) (hok : LOk ls) (hl : LLast ls last) {a b : Int} (hab : a ≤ b) (hh : h ≤ least) (h1 : 1 ≤ least) : untilL h ls a ≤ untilL h ls b ∧ 0 ≤ untilL h ls a ∧ untilL h ls b ≤ last + least := by
  unfold untilL
  have hf := hok.find b
  have hfa := hok.find a
  have hmono := fun e => findL_mono hs hok hab e
  have hmb := findL_mem ls b
  have h0 := hl.1
  by_cases hz : h ≤ 0
  · rw [if_pos (.inr hz), if_pos (.inr hz)]
    omega
  · by_cases hb : findL ls b = (0, 0)
    · have ha : findL ls a = (0, 0) := by
        by_cases e : findL ls a = (0, 0)
        · exact e
        · exact absurd hb (hmono e).1
      rw [if_pos (.inl ha), if_pos (.inl hb)]
      omega
    · have hby : ¬ (findL ls b = (0, 0) ∨ h ≤ 0) := fun e => e.elim hb hz
      rw [if_neg hby]
      have hbl : (findL ls b).2 ≤ last := by
        rcases hmb with e | ⟨e, _⟩
        · exact absurd e hb
        · exact hl.2.2 _ e
      have hb0 : 0 ≤ (findL ls b).2 := by
        rcases hf with e | e
        · exact absurd e hb
        · exact e.2.1
      by_cases ha : findL ls a = (0, 0)
      · rw [if_pos (.inl ha)]
        omega
      · have hay : ¬ (findL ls a = (0, 0) ∨ h ≤ 0) := fun e => e.elim ha hz
        rw [if_neg hay]
        have := (hmono ha).2
        have ha0 : 0 ≤ (findL ls a).2 := by
          rcases hfa with e | e
          · exact absurd e ha
          · exact e.2.1
        omega
theorem sentL_code (ls : List (Int × Int)) (r t : Int) : (sentL ls r t).1 = 0 ∨ ((sentL ls r t).1 ≠ 0 ∧ (sentL ls r t).2 = ls) := by
  unfold sentL
  split
  · exact .inr ⟨by simp, rfl⟩
  · split
    · exact .inl rfl
    · split
      · exact .inr ⟨by simp, rfl⟩
      · exact .inl rfl
section
variable {base : Nat} {F : Nat → Prop} {W : World} {p : Nat} {h : Int} {ls : List (Int × Int)}
theorem LStep.mono_l {F F0 F' : Nat → Prop} {a b : World} (h : Step F F' a b) (hF : ∀ k, F k → F0 k) : Step F0 F' a b := ⟨h.1.mono fun k _ e => hF k e, fun k hk => (h.2 k hk).elim (fun e => .inl (hF k e)) .inr⟩
theorem LGrew.of {v : Value} {W' : World} {ls' : List (Int × Int)} (hg : LGrew base (lfoot p v) W p W' h ls') (hF : ∀ k, lfoot p v k → F k) : LGrew base F W p W' h ls' := by
  obtain ⟨F', h1, h2⟩ := hg
  exact ⟨F', h1, LStep.mono_l h2 hF⟩
theorem sent_o (ho : LeO base F W p h ls) (hb : base ≤ W.heap.size) (hok : LOk ls) (r t : Int) : Calls Try.prog 10 #[.pointer (some ⟨p, 0, none⟩), .int .i64 r, .int .i64 t] W fun e w' => e = .returned (.int .i64 (sentL ls r t).1) ∧ LGrew base F W p w' h (sentL ls r t).2 := by
  obtain ⟨v, hv, hF, hFt⟩ := id ho
  unfold sentL
  split
  · rename_i hbad
    refine (sent_bad r t hbad).mono ?_
    rintro e w' ⟨rfl, hs⟩
    exact ⟨rfl, LGrew.same ho hs⟩
  · rename_i hg
    rcases getLast_split (ls := ls) with rfl | ⟨ini, x, rfl⟩
    · refine (sent_none hv hb r t hg).mono ?_
      rintro e w' ⟨rfl, hs⟩
      exact ⟨rfl, hs.of hF⟩
    · have hlen : ini.length ≤ 99 := by have := hok.1; simp at this; omega
      simp only [List.getLast?_append, List.getLast?_singleton, Option.some_or]
      split
      · rename_i hx
        refine (sent_late hv (by omega) r t hg hx).mono ?_
        rintro e w' ⟨rfl, hs⟩
        exact ⟨rfl, LGrew.same ho hs⟩
      · rename_i hx
        refine (sent_good hv hb hlen r t hg hx).mono ?_
        rintro e w' ⟨rfl, hs⟩
        exact ⟨rfl, hs.of hF⟩
theorem until_o (ho : LeO base F W p h ls) (hok : LOk ls) (hh : -2000 ≤ h ∧ h ≤ 1000) (r : Int) : Calls Try.prog 11 #[.pointer (some ⟨p, 0, none⟩), .int .i64 r] W fun e w' => e = .returned (.int .i64 (untilL h ls r)) ∧ Same W w' := by
  obtain ⟨v, hv, hF, hFt⟩ := ho
  exact until_any hv hok hh r
theorem holds_o (ho : LeO base F W p h ls) (hok : LOk ls) (hh : -2000 ≤ h ∧ h ≤ 1000) (r now : Int) : Calls Try.prog 17 #[.pointer (some ⟨p, 0, none⟩), .int .i64 r, .int .i64 now] W fun e w' => e = .returned (.bool (holdsL h ls r now)) ∧ Same W w' := by
  obtain ⟨v, hv, hF, hFt⟩ := ho
  exact holds_any hv hok hh r now
end
theorem LGrew.go {w0 W W' : World} {F : Nat → Prop} {p : Nat} {h : Int} {ls ls' : List (Int × Int)} (g : LGrew w0.heap.size F W p W' h ls') (ho : LeO w0.heap.size F W p h ls) (hs : Same w0 W) : ∃ F', LeO w0.heap.size F' W' p h ls' ∧ Same w0 W' := by
  obtain ⟨F', h1, h2⟩ := g
  obtain ⟨v, a1, a2, a3⟩ := ho
  exact ⟨F', h1, h2.keeps hs a3⟩
theorem lnew_o (h : Int) (w : World) {w' : World} (hc : LeC w' w.heap.size h (.slice none 0 0)) (base : Nat) (hb : base ≤ w.heap.size) : LeO base (fun k => k = w.heap.size) w' w.heap.size h [] ∧ LOk [] := by
  have hr : ∀ k, ¬ room (.slice none 0 0) = some k := fun k e => by simp [room] at e
  refine ⟨⟨.slice none 0 0, ⟨hb, hc, Own.nil _ _ _, hr _⟩, ?_, ?_⟩, by simp, by simp⟩
  · rintro k (e | e)
    · exact e
    · exact (hr k e).elim
  · rintro k rfl
    exact ⟨hb, hc.lt⟩
theorem kl1 : sentL [] 1 5 = (0, [(1, 5)]) := by rfl
theorem kl2 : untilL 6 [(1, 5)] 1 = 11 := by rfl
theorem kl3 : holdsL 6 [(1, 5)] 1 10 = true := by decide
theorem kl4 : holdsL 6 [(1, 5)] 1 11 = false := by decide
theorem kl5 : untilL 6 [(1, 5)] 0 = 0 := by rfl
set_option maxRecDepth 100000 in
theorem known_any (w : World) : Calls Try.prog 9 #[] w fun r w' => r = .returned (.bool true) ∧ Same w w' := by
  go_enter Try.func9, Try.ntmps9
  go_wp2_with fail
  refine (lnew_good 10 2 w (by decide) (by decide) (by decide) (by decide)).mono ?_
  rintro r w1 ⟨rfl, hc, hs1⟩
  have hc : LeC w1 w.heap.size 6 (.slice none 0 0) := hc
  obtain ⟨hO, hok⟩ := lnew_o 6 w hc w.heap.size (Nat.le_refl _)
  have hcm := sent_o hO hs1.size hok 1 5
  have hokc := hok.sent 1 5
  rw [kl1] at hcm hokc
  have HO := Lib.hid (And.intro hO hs1)
  have HOK := Lib.hid hokc
  have HCM := Lib.hid hcm
  clear hcm hokc hO hs1 hc hok
  go_wp2_with fail
  refine HCM.out.mono ?_
  rintro r w2 ⟨rfl, hg⟩
  obtain ⟨F2, hO2, hs2⟩ := hg.go HO.out.1 HO.out.2
  have HU := Lib.hid (fun w' (h : Same w2 w') => until_o (hO2.same h) HOK.out (by decide) 1)
  have HU0 := Lib.hid (fun w' (h : Same w2 w') => until_o (hO2.same h) HOK.out (by decide) 0)
  have HH0 := Lib.hid (fun w' (h : Same w2 w') => holds_o (hO2.same h) HOK.out (by decide) 1 10)
  have HH1 := Lib.hid (fun w' (h : Same w2 w') => holds_o (hO2.same h) HOK.out (by decide) 1 11)
  simp only [kl2] at HU
  simp only [kl5] at HU0
  simp only [kl3] at HH0
  simp only [kl4] at HH1
  have HS2 := Lib.hid hs2
  clear hg HO HOK HCM hO2 hs2
  go_wp2_with fail
  refine (HU.out _ (Upd.refl _ _)).mono ?_
  rintro r w3 ⟨rfl, hs3⟩
  have HS3 := Lib.hid hs3
  clear hs3
  go_wp2_with fail
  refine (HH0.out _ HS3.out).mono ?_
  rintro r w4 ⟨rfl, hs4⟩
  have HS4 := Lib.hid (Same.trans HS3.out hs4)
  clear hs4
  go_wp2_with fail
  refine (HH1.out _ HS4.out).mono ?_
  rintro r w5 ⟨rfl, hs5⟩
  have HS5 := Lib.hid (Same.trans HS4.out hs5)
  clear hs5
  go_wp2_with fail
  refine (HU0.out _ HS5.out).mono ?_
  rintro r w6 ⟨rfl, hs6⟩
  have HS6 := Lib.hid (Same.trans HS5.out hs6)
  clear hs6
  go_wp2_with fail
  go_ret
  exact ⟨rfl, Same.trans HS2.out HS6.out⟩
end Go.Proofs.Ytoepflfchcoogaa
