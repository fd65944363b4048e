/- The reference's lease: its object; New, place, Until, Holds, Sent. -/
import Derived.Test.YtoepflfchcoogaaLeaseP
namespace Go.Proofs.Ytoepflfchcoogaa
open Go.RowKit
set_option linter.unusedVariables false
set_option linter.unusedSimpArgs false
attribute [local go_sem ↓] Go.wp_at_zero Go.wp_at_succ

def numC (z : Int) : Value := .int .i64 z
def RLeC (W : World) (q : Nat) (a b : Int) (vr vt : Value) : Prop :=
  (W.cell? ⟨q, 0, none⟩ = some (.int .i64 a) ∧ W.cell? ⟨q, 1, none⟩ = some (.int .i64 b) ∧ W.cell? ⟨q, 2, none⟩ = some vr ∧ W.cell? ⟨q, 3, none⟩ = some vt) ∧ ∀ j, j < 4 → W.frozen? ⟨q, j, none⟩ = false
theorem RLeC.lt {W : World} {q : Nat} {a b : Int} {vr vt : Value} (h : RLeC W q a b vr vt) : q < W.heap.size := World.block_lt_of_cell? W _ h.1.1
theorem RLeC.upd {S : Nat → Prop} {W W' : World} {q : Nat} {a b : Int} {vr vt : Value} (h : RLeC W q a b vr vt) (hu : Upd S W W') (hn : ¬ S q) : RLeC W' q a b vr vt := by
  have hlt := h.lt
  obtain ⟨⟨c0, c1, c2, c3⟩, hf⟩ := h
  exact ⟨⟨hu.cell c0 hn, hu.cell c1 hn, hu.cell c2 hn, hu.cell c3 hn⟩, fun j hj => (hu.frozen (p := ⟨q, j, none⟩) hlt hn).trans (hf j hj)⟩
theorem RLeC.new (W : World) (a b : Int) (vr vt : Value) (t : TypeId) (q : Nat) (hq : q = W.heap.size) : RLeC (W.alloc (.cells #[.int .i64 a, .int .i64 b, vr, vt] t)) q a b vr vt := by
  subst hq
  have h : (W.alloc (.cells #[.int .i64 a, .int .i64 b, vr, vt] t)).heap[W.heap.size]? = some (.cells #[.int .i64 a, .int .i64 b, vr, vt] t) := heap_alloc_new W _
  refine ⟨⟨?_, ?_, ?_, ?_⟩, fun j hj => ?_⟩
  all_goals first | (rw [cell_of_row _ _ _ _ t (0, 0) h]; rfl) | (unfold World.frozen?; rw [h]; simp)
section
variable {W : World} {q : Nat} {a b : Int} {vr vt : Value}
theorem RLeC.s2 (h : RLeC W q a b vr vt) (u : Value) : RLeC (W.setCell ⟨q, 2, none⟩ u) q a b u vt := by
  obtain ⟨⟨c0, c1, c2, c3⟩, hf⟩ := h
  refine ⟨⟨?_, ?_, World.cell?_setCell_same _ _ _ c2, ?_⟩, fun j hj => by rw [World.frozen?_setCell]; exact hf j hj⟩
  all_goals (rw [World.cell?_setCell_other _ _ _ _ (off_ne q (by decide))]; assumption)
theorem RLeC.s3 (h : RLeC W q a b vr vt) (u : Value) : RLeC (W.setCell ⟨q, 3, none⟩ u) q a b vr u := by
  obtain ⟨⟨c0, c1, c2, c3⟩, hf⟩ := h
  refine ⟨⟨?_, ?_, ?_, World.cell?_setCell_same _ _ _ c3⟩, fun j hj => by rw [World.frozen?_setCell]; exact hf j hj⟩
  all_goals (rw [World.cell?_setCell_other _ _ _ _ (off_ne q (by decide))]; assumption)
end
def rlfoot (q : Nat) (vr vt : Value) : Nat → Prop := fun k => k = q ∨ room vr = some k ∨ room vt = some k
/-- The reference's lease: rounds in one row, times in another. -/
def RLeV (base : Nat) (W : World) (q : Nat) (vr vt : Value) (a b : Int) (rs ts : List Int) : Prop :=
  base ≤ q ∧ RLeC W q a b vr vt ∧ Own base W vr 1 (rs.map numC) ∧ Own base W vt 1 (ts.map numC) ∧ (∀ k, room vr = some k → k ≠ q ∧ ¬ room vt = some k) ∧ ∀ k, room vt = some k → k ≠ q
def RLeO (base : Nat) (G : Nat → Prop) (W : World) (q : Nat) (a b : Int) (ls : List (Int × Int)) : Prop := ∃ vr vt, RLeV base W q vr vt a b (ls.map (·.1)) (ls.map (·.2)) ∧ (∀ k, rlfoot q vr vt k → G k) ∧ Foot base G W
theorem RLeV.upd {base : Nat} {S : Nat → Prop} {W W' : World} {q : Nat} {vr vt : Value} {a b : Int} {rs ts : List Int} (h : RLeV base W q vr vt a b rs ts) (hu : Upd S W W') (hn : ∀ k, rlfoot q vr vt k → ¬ S k) : RLeV base W' q vr vt a b rs ts :=
  ⟨h.1, h.2.1.upd hu (hn q (.inl rfl)), h.2.2.1.upd hu (fun k hk => hn k (.inr (.inl hk))), h.2.2.2.1.upd hu (fun k hk => hn k (.inr (.inr hk))), h.2.2.2.2⟩
theorem RLeV.foot {base : Nat} {W : World} {q : Nat} {vr vt : Value} {a b : Int} {rs ts : List Int} (h : RLeV base W q vr vt a b rs ts) : Foot base (rlfoot q vr vt) W := by
  rintro k (rfl | hk | hk)
  · exact ⟨h.1, h.2.1.lt⟩
  · exact h.2.2.1.ge (by decide) k hk
  · exact h.2.2.2.1.ge (by decide) k hk
theorem RLeO.upd {base : Nat} {G S : Nat → Prop} {W W' : World} {q : Nat} {a b : Int} {ls : List (Int × Int)} (h : RLeO base G W q a b ls) (hu : Upd S W W') (hn : ∀ k, G k → ¬ S k) : RLeO base G W' q a b ls := by
  obtain ⟨vr, vt, h1, h2, h3⟩ := h
  exact ⟨vr, vt, h1.upd hu fun k hk => hn k (h2 k hk), h2, h3.mono hu.size⟩
theorem RLeO.same {base : Nat} {G : Nat → Prop} {W W' : World} {q : Nat} {a b : Int} {ls : List (Int × Int)} (h : RLeO base G W q a b ls) (hu : Same W W') : RLeO base G W' q a b ls := h.upd hu fun _ _ h => h
def RLGrew (base : Nat) (G : Nat → Prop) (W : World) (q : Nat) (W' : World) (a b : Int) (ls : List (Int × Int)) : Prop := ∃ G', RLeO base G' W' q a b ls ∧ Step G G' W W'
theorem RLGrew.same {base : Nat} {G : Nat → Prop} {W W' : World} {q : Nat} {a b : Int} {ls : List (Int × Int)} (h : RLeO base G W q a b ls) (hs : Same W W') : RLGrew base G W q W' a b ls := ⟨G, h.same hs, Step.same hs⟩
/-- The place of the last round that is not above one; -1: there is none. -/
def placeL (ls : List (Int × Int)) (r : Int) (n : Nat) : Int := match n with
  | 0 => -1
  | k + 1 => if (ls.getD k (0, 0)).1 ≤ r then (k : Int) else placeL ls r k
theorem placeL_range (ls : List (Int × Int)) (r : Int) : ∀ n, -1 ≤ placeL ls r n ∧ placeL ls r n < n := by
  intro n
  induction n with
  | zero => simp [placeL]
  | succ k ih =>
    unfold placeL
    split
    · omega
    · omega
/-- What the place says. -/
theorem placeL_find (ls : List (Int × Int)) (hok : LOk ls) (r : Int) : (placeL ls r ls.length = -1 ∧ findL ls r = (0, 0)) ∨ (∃ k : Nat, k < ls.length ∧ placeL ls r ls.length = k ∧ findL ls r = ls.getD k (0, 0) ∧ findL ls r ≠ (0, 0)) := by
  have key : ∀ n, n ≤ ls.length → (∀ y ∈ come ls n, r < y.2.1) → (placeL ls r n = -1 ∧ findL ls r = (0, 0)) ∨ (∃ k : Nat, k < ls.length ∧ placeL ls r n = k ∧ findL ls r = ls.getD k (0, 0) ∧ findL ls r ≠ (0, 0)) := by
    intro n
    induction n with
    | zero => intro _ h; exact .inl ⟨rfl, findL_none ls r h⟩
    | succ k ih =>
      intro hk h
      unfold placeL
      by_cases hle : (ls.getD k (0, 0)).1 ≤ r
      · rw [if_pos hle]
        have hf := findL_at ls r k (by omega) h hle
        refine .inr ⟨k, by omega, rfl, hf, ?_⟩
        rw [hf]
        intro e
        have hm : ls.getD k (0, 0) ∈ ls := by
          rw [List.getD_eq_getElem?_getD, List.getElem?_eq_getElem (by omega)]
          exact List.getElem_mem _
        have := (hok.2 _ hm).1.1
        rw [e] at this
        simp at this
      · rw [if_neg hle]
        refine ih (by omega) fun y hy => ?_
        rw [come_succ ls k (by omega)] at hy
        rcases List.mem_append.1 hy with hy | hy
        · exact h y hy
        · rw [List.mem_singleton] at hy
          subst hy
          show r < (ls.getD k (0, 0)).1
          omega
  exact key ls.length (Nat.le_refl _) (by rw [come_all]; simp)
section
variable {base : Nat} {W : World} {q : Nat} {vr vt : Value} {a b : Int} {ls : List (Int × Int)}
theorem rlnew_bad (a b : Int) (w : World) (hbad : a < 1 ∨ 1000 < a ∨ b < 1 ∨ 1000 < b) : Calls Try.prog 12 #[.int .i64 a, .int .i64 b] w fun r w' => r = .returned (.tuple #[.pointer none, .int .i64 1]) ∧ w = w' := by
  by_cases h1 : a < 1
  · go_enter Try.func12, Try.ntmps12
    go_wp2
    go_ret2
    exact ⟨rfl, rfl⟩
  by_cases h2 : 1000 < a
  · go_enter Try.func12, Try.ntmps12
    go_wp2
    go_ret2
    exact ⟨rfl, rfl⟩
  by_cases h3 : b < 1
  · go_enter Try.func12, Try.ntmps12
    go_wp2
    go_ret2
    exact ⟨rfl, rfl⟩
  · have h4 : 1000 < b := by omega
    go_enter Try.func12, Try.ntmps12
    go_wp2
    go_ret2
    exact ⟨rfl, rfl⟩
theorem rlnew_good (a b : Int) (w : World) (h1 : 1 ≤ a) (h2 : a ≤ 1000) (h3 : 1 ≤ b) (h4 : b ≤ 1000) : Calls Try.prog 12 #[.int .i64 a, .int .i64 b] w fun r w' => r = .returned (.tuple #[.pointer (some ⟨w.heap.size, 0, none⟩), .int .i64 0]) ∧ RLeC w' w.heap.size a b (.slice none 0 0) (.slice none 0 0) ∧ Same w w' := by
  go_enter Try.func12, Try.ntmps12
  go_wp2
  go_ret2
  exact ⟨rfl, RLeC.new w _ _ _ _ _ _ rfl, (Upd.refl _ w).alloc _⟩
theorem num_get (f : Int × Int → Int) (ls : List (Int × Int)) (k : Nat) (hk : k < ls.length) : ((ls.map f).map numC)[k]? = some (.int .i64 (f (ls.getD k (0, 0)))) := by
  rw [List.getElem?_map, List.getElem?_map, List.getElem?_eq_getElem hk, List.getD_eq_getElem?_getD, List.getElem?_eq_getElem hk]
  rfl
theorem place_any (h : RLeV base W q vr vt a b (ls.map (·.1)) (ls.map (·.2))) (hlen : ls.length ≤ 100) (r : Int) : Calls Try.prog 37 #[.pointer (some ⟨q, 0, none⟩), .int .i64 r] W fun e w' => e = .returned (.int .i64 (placeL ls r ls.length)) ∧ w' = W := by
  obtain ⟨A, m, cap, rfl, h1, h2, h3⟩ := h.2.2.1.open_
  have h1 : ls.length = m := by simpa using h1
  obtain ⟨⟨c0, c1, c2, c3⟩, hf⟩ := h.2.1
  have HO := Lib.hid h.2.2.1
  obtain ⟨N, hN⟩ : ∃ N, N = ls.length := ⟨_, rfl⟩
  rw [← h1, ← hN] at c2
  rw [← hN]
  have HN := Lib.hid (And.intro hN h1)
  have h100 : N ≤ 100 := by omega
  clear hf h c0 c1 c3 h1 h2 hN hlen
  go_enter Try.func37, Try.ntmps37
  go_wp2_with fail
  go_loop [5, 6] (fun v5 v6 => ∃ k : Nat, k ≤ N ∧ v6 = .int .i64 k ∧ v5 = .int .i64 (placeL ls r k)) (fun _ v6 => N - (intOf v6).toNat)
  case atStart => exact ⟨0, by omega, rfl, rfl⟩
  case round =>
    obtain ⟨k, hk, rfl, rfl⟩ := hrel
    by_cases hlt : k < N
    · have hkl : k < ls.length := by have := HN.out.1; omega
      obtain ⟨b', off, rfl, hc⟩ := Own.at_ HO.out (by simp; omega)
      have x0 := hc _ _ (num_get (·.1) ls k hkl)
      have hpl : placeL ls r (k + 1) = if (ls.getD k (0, 0)).1 ≤ r then (k : Int) else placeL ls r k := rfl
      have g1 : (k : Int) < (N : Int) := by omega
      obtain ⟨R, hR⟩ : ∃ R, R = (ls.getD k (0, 0)).1 := ⟨_, rfl⟩
      simp only [← hR] at x0 hpl
      obtain ⟨P0, hP0⟩ : ∃ P0, P0 = placeL ls r k := ⟨_, rfl⟩
      rw [← hP0] at hpl ⊢
      have HPL := Lib.hid hpl
      clear hc hpl hR hP0
      by_cases hle : R ≤ r
      · go_wp2_with fail
        go_round
        case rel => exact ⟨k + 1, by omega, by go_num, by rw [HPL.out, if_pos hle]⟩
        case measure => simp [intOf]; omega
      · have hgt : r < R := by omega
        go_wp2_with fail
        go_round
        case rel => exact ⟨k + 1, by omega, by go_num, by rw [HPL.out, if_neg (by omega)]⟩
        case measure => simp [intOf]; omega
    · obtain rfl : k = N := by omega
      obtain ⟨P0, hP0⟩ : ∃ P0, P0 = placeL ls r k := ⟨_, rfl⟩
      rw [← hP0]
      go_wp2_with fail
      go_ret
      exact ⟨by rw [← hP0]; rfl, rfl⟩
theorem runtil_any (h : RLeV base W q vr vt a b (ls.map (·.1)) (ls.map (·.2))) (hok : LOk ls) (hab : 1 ≤ a ∧ a ≤ 1000 ∧ 1 ≤ b ∧ b ≤ 1000) (r : Int) : Calls Try.prog 16 #[.pointer (some ⟨q, 0, none⟩), .int .i64 r] W fun e w' => e = .returned (.int .i64 (untilL (a - 2 * b) ls r)) ∧ Same W w' := by
  have hpl := Lib.hid (place_any h hok.1 r)
  have hun : untilL (a - 2 * b) ls r = if findL ls r = (0, 0) ∨ (a - 2 * b) ≤ 0 then 0 else (findL ls r).2 + (a - 2 * b) := rfl
  obtain ⟨X, hX⟩ : ∃ X, X = untilL (a - 2 * b) ls r := ⟨_, rfl⟩
  rw [← hX] at hun ⊢
  have HX := Lib.hid hun
  obtain ⟨⟨c0, c1, c2, c3⟩, hf⟩ := h.2.1
  obtain ⟨a1, a2, a3, a4⟩ := hab
  rcases placeL_find ls hok r with ⟨e1, e2⟩ | ⟨k, hk, e1, e2, e3⟩
  · rw [e1] at hpl
    clear hf hX hun hok h
    go_enter Try.func16, Try.ntmps16
    go_wp2_with fail
    refine hpl.out.mono ?_
    rintro e w1 ⟨rfl, rfl⟩
    go_wp2_with fail
    go_quiet (fail)
    go_wp2_with fail
    go_ret
    exact ⟨ret_int (by rw [HX.out, if_pos (.inl e2)]), (Upd.refl _ _).drewN _⟩
  · rw [e1] at hpl
    have hT := (hok.2 _ ((findL_mem ls r).resolve_left e3).1).2
    rw [e2] at HX hT e3
    obtain ⟨A, m, cap, rfl, h1, h2, h3⟩ := h.2.2.2.1.open_
    have h1 : ls.length = m := by simpa using h1
    obtain ⟨b', off, rfl, hc⟩ := Own.at_ h.2.2.2.1 (by simp; omega)
    have x0 := hc _ _ (num_get (·.2) ls k hk)
    generalize ls.getD k (0, 0) = x at x0 HX hT e3
    obtain ⟨x1, x2⟩ := x
    simp only at x0 HX hT
    have g0 : ¬ (k : Int) < 0 := by omega
    have g1 : (k : Int) < (m : Int) := by omega
    have hlen := hok.1
    have y1 : IntKind.i64.wrap (2 * b) = 2 * b := by rw [IntKind.wrap_i64]; omega
    have y2 : IntKind.i64.wrap (a - 2 * b) = a - 2 * b := by rw [IntKind.wrap_i64]; omega
    have y3 : IntKind.i64.wrap (x2 + (a - 2 * b)) = x2 + (a - 2 * b) := by rw [IntKind.wrap_i64]; omega
    have hX1 : a - 2 * b ≤ 0 ∨ 0 < a - 2 * b := by omega
    obtain ⟨t1, t2⟩ := hT
    clear hf hX hun hok h hc h1
    rcases hX1 with hle | hgt
    · go_enter Try.func16, Try.ntmps16
      go_wp2_with fail
      refine hpl.out.mono ?_
      rintro e w1 ⟨rfl, rfl⟩
      go_wp2_with fail
      go_quiet (fail)
      go_wp2_with fail
      go_ret
      exact ⟨ret_int (by rw [HX.out, if_pos (.inr hle)]), (Upd.refl _ _).drewN _⟩
    · go_enter Try.func16, Try.ntmps16
      go_wp2_with fail
      refine hpl.out.mono ?_
      rintro e w1 ⟨rfl, rfl⟩
      go_wp2_with fail
      go_quiet (fail)
      go_wp2_with fail
      go_quiet (fail)
      go_wp2_with fail
      go_ret
      exact ⟨ret_int (by rw [HX.out, if_neg (by rintro (e | e); exact e3 e; omega)]), ((Upd.refl _ _).drewN _).drewN _⟩
theorem rholds_any (h : RLeV base W q vr vt a b (ls.map (·.1)) (ls.map (·.2))) (hok : LOk ls) (hab : 1 ≤ a ∧ a ≤ 1000 ∧ 1 ≤ b ∧ b ≤ 1000) (r now : Int) : Calls Try.prog 18 #[.pointer (some ⟨q, 0, none⟩), .int .i64 r, .int .i64 now] W fun e w' => e = .returned (.bool (holdsL (a - 2 * b) ls r now)) ∧ Same W w' := by
  have hpl := Lib.hid (place_any h hok.1 r)
  have HU := Lib.hid (runtil_any h hok hab r)
  have hho : holdsL (a - 2 * b) ls r now = decide (findL ls r ≠ (0, 0) ∧ (findL ls r).2 ≤ now ∧ now < untilL (a - 2 * b) ls r) := rfl
  obtain ⟨X, hX⟩ : ∃ X, X = holdsL (a - 2 * b) ls r now := ⟨_, rfl⟩
  rw [← hX] at hho ⊢
  generalize untilL (a - 2 * b) ls r = U at HU hho
  have HX := Lib.hid hho
  obtain ⟨⟨c0, c1, c2, c3⟩, hf⟩ := h.2.1
  rcases placeL_find ls hok r with ⟨e1, e2⟩ | ⟨k, hk, e1, e2, e3⟩
  · rw [e1] at hpl
    rw [e2] at HX
    clear hf hX hho hok h
    go_enter Try.func18, Try.ntmps18
    go_wp2_with fail
    refine hpl.out.mono ?_
    rintro e w1 ⟨rfl, rfl⟩
    go_wp2_with fail
    go_ret
    exact ⟨ret_bool (by rw [HX.out]; simp), Upd.refl _ _⟩
  · rw [e1] at hpl
    rw [e2] at HX e3
    obtain ⟨A, m, cap, rfl, h1, h2, h3⟩ := h.2.2.2.1.open_
    have h1 : ls.length = m := by simpa using h1
    obtain ⟨b', off, rfl, hc⟩ := Own.at_ h.2.2.2.1 (by simp; omega)
    have x0 := hc _ _ (num_get (·.2) ls k hk)
    generalize ls.getD k (0, 0) = x at x0 HX e3
    obtain ⟨x1, x2⟩ := x
    simp only at x0 HX
    have g0 : (0 : Int) ≤ (k : Int) := by omega
    have g1 : (k : Int) < (m : Int) := by omega
    have E3 := Lib.hid e3
    clear hf hX hho hok h hc h1 e3 e1 e2
    by_cases hle : x2 ≤ now
    · go_enter Try.func18, Try.ntmps18
      go_wp2_with fail
      refine hpl.out.mono ?_
      rintro e w1 ⟨rfl, rfl⟩
      go_wp2_with fail
      refine HU.out.mono ?_
      rintro e w2 ⟨rfl, hs2⟩
      have HS2 := Lib.hid hs2
      clear hs2
      go_wp2_with fail
      go_ret
      exact ⟨ret_bool (by rw [HX.out]; simp [hle, E3.out]), HS2.out⟩
    · have hgt : now < x2 := by omega
      go_enter Try.func18, Try.ntmps18
      go_wp2_with fail
      refine hpl.out.mono ?_
      rintro e w1 ⟨rfl, rfl⟩
      go_wp2_with fail
      go_ret
      exact ⟨ret_bool (by rw [HX.out]; simp; intro _ h; omega), Upd.refl _ _⟩
/-- Another row of rounds, of times. -/
theorem RLeV.setR {rs ts : List Int} (h : RLeV base W q vr vt a b rs ts) {w1 : World} {v1 : Value} {rs' : List Int} (hf : Own base w1 v1 1 (rs'.map numC)) (hu : Upd (fun k => room vr = some k) W w1) (hr : ∀ k, room v1 = some k → room vr = some k ∨ W.heap.size ≤ k) :
    RLeV base (w1.setCell ⟨q, 2, none⟩ v1) q v1 vt a b rs' ts ∧ Upd (rlfoot q vr vt) W (w1.setCell ⟨q, 2, none⟩ v1) ∧ ∀ k, rlfoot q v1 vt k → rlfoot q vr vt k ∨ W.heap.size ≤ k := by
  obtain ⟨h1, h2, h3, h4, h5, h6⟩ := h
  have hq := h2.lt
  have a1 : ∀ k, room v1 = some k → k ≠ q ∧ ¬ room vt = some k := fun k hk => by
    rcases hr k hk with e | e
    · exact h5 k e
    · exact ⟨by omega, fun e2 => by have := (h4.ge (by decide) k e2).2; omega⟩
  have u3 : Upd (fun k => k = q) w1 (w1.setCell ⟨q, 2, none⟩ v1) := (Upd.refl (fun k => k = q) w1).setCell (p := ⟨q, 2, none⟩) (fun _ => rfl) _
  refine ⟨⟨h1, (h2.upd hu fun e => (h5 q e).1 rfl).s2 v1, hf.upd u3 fun k hk e => (a1 k hk).1 e, (h4.upd hu fun k hk e => (h5 k e).2 hk).upd u3 fun k hk e => h6 k hk e, a1, h6⟩, Upd.trans (hu.mono fun k _ e => .inr (.inl e)) u3 fun k _ e => .inl e, ?_⟩
  rintro k (e | e | e)
  · exact .inl (.inl e)
  · exact (hr k e).imp (fun e => .inr (.inl e)) fun e => e
  · exact .inl (.inr (.inr e))
theorem RLeV.setT {rs ts : List Int} (h : RLeV base W q vr vt a b rs ts) {w1 : World} {v1 : Value} {ts' : List Int} (hf : Own base w1 v1 1 (ts'.map numC)) (hu : Upd (fun k => room vt = some k) W w1) (hr : ∀ k, room v1 = some k → room vt = some k ∨ W.heap.size ≤ k) :
    RLeV base (w1.setCell ⟨q, 3, none⟩ v1) q vr v1 a b rs ts' ∧ Upd (rlfoot q vr vt) W (w1.setCell ⟨q, 3, none⟩ v1) ∧ ∀ k, rlfoot q vr v1 k → rlfoot q vr vt k ∨ W.heap.size ≤ k := by
  obtain ⟨h1, h2, h3, h4, h5, h6⟩ := h
  have hq := h2.lt
  have a1 : ∀ k, room v1 = some k → k ≠ q ∧ ¬ room vr = some k := fun k hk => by
    rcases hr k hk with e | e
    · exact ⟨h6 k e, fun e2 => (h5 k e2).2 e⟩
    · exact ⟨by omega, fun e2 => by have := (h3.ge (by decide) k e2).2; omega⟩
  have u3 : Upd (fun k => k = q) w1 (w1.setCell ⟨q, 3, none⟩ v1) := (Upd.refl (fun k => k = q) w1).setCell (p := ⟨q, 3, none⟩) (fun _ => rfl) _
  refine ⟨⟨h1, (h2.upd hu fun e => h6 q e rfl).s3 v1, (h3.upd hu fun k hk e => (h5 k hk).2 e).upd u3 fun k hk e => (h5 k hk).1 e, hf.upd u3 fun k hk e => (a1 k hk).1 e, fun k hk => ⟨(h5 k hk).1, fun e => (a1 k e).2 hk⟩, fun k hk => (a1 k hk).1⟩, Upd.trans (hu.mono fun k _ e => .inr (.inr e)) u3 fun k _ e => .inl e, ?_⟩
  rintro k (e | e | e)
  · exact .inl (.inl e)
  · exact .inl (.inr (.inl e))
  · exact (hr k e).imp (fun e => .inr (.inr e)) fun e => e
theorem nums_len (rs : List Int) : (rs.map numC).length = rs.length * 1 := by simp
theorem num_one (rs : List Int) : ∀ y ∈ rs.map numC, y.oneCell' = true := by
  intro y hy
  obtain ⟨z, _, rfl⟩ := List.mem_map.1 hy
  rfl
theorem rsent_bad (r t : Int) (hbad : r < 1 ∨ 1152921504606846976 < r ∨ t < 0 ∨ 1099511627776 < t) : Calls Try.prog 14 #[.pointer (some ⟨q, 0, none⟩), .int .i64 r, .int .i64 t] W fun e w' => e = .returned (.int .i64 1) ∧ Same W w' := by
  by_cases h1 : r < 1
  · go_enter Try.func14, Try.ntmps14
    go_wp2
    go_ret
    exact ⟨rfl, Upd.refl _ _⟩
  by_cases h2 : 1152921504606846976 < r
  · go_enter Try.func14, Try.ntmps14
    go_wp2
    go_ret
    exact ⟨rfl, Upd.refl _ _⟩
  by_cases h3 : t < 0
  · go_enter Try.func14, Try.ntmps14
    go_wp2
    go_ret
    exact ⟨rfl, Upd.refl _ _⟩
  · have h4 : 1099511627776 < t := by omega
    go_enter Try.func14, Try.ntmps14
    go_wp2
    go_ret
    exact ⟨rfl, Upd.refl _ _⟩
theorem rsent_late {n : Nat} (h : RLeV base W q vr vt a b (ls.map (·.1)) (ls.map (·.2))) (hn : ls.length = n + 1) (hlen : n ≤ 1000) (r t : Int) (hg : ¬ (r < 1 ∨ 1152921504606846976 < r ∨ t < 0 ∨ 1099511627776 < t)) (hx : r ≤ (ls.getD n (0, 0)).1 ∨ t < (ls.getD n (0, 0)).2) : Calls Try.prog 14 #[.pointer (some ⟨q, 0, none⟩), .int .i64 r, .int .i64 t] W fun e w' => e = .returned (.int .i64 5) ∧ Same W w' := by
  have g1 : 1 ≤ r := by omega
  have g2 : r ≤ 1152921504606846976 := by omega
  have g3 : 0 ≤ t := by omega
  have g4 : t ≤ 1099511627776 := by omega
  obtain ⟨⟨c0, c1, c2, c3⟩, hf⟩ := h.2.1
  obtain ⟨A, m, cap, rfl, h1, h2, h3⟩ := h.2.2.1.open_
  obtain ⟨B, m', cup, rfl, h4, h5, h6⟩ := h.2.2.2.1.open_
  have h1 : m = n + 1 := by have h1 : ls.length = m := by simpa using h1
                            omega
  have h4 : m' = n + 1 := by have h4 : ls.length = m' := by simpa using h4
                             omega
  subst h1 h4
  obtain ⟨bA, oA, rfl, hA⟩ := Own.at_ h.2.2.1 (by simp; omega)
  obtain ⟨bB, oB, rfl, hB⟩ := Own.at_ h.2.2.2.1 (by simp; omega)
  have x0 := hA _ _ (num_get (·.1) ls n (by omega))
  have x1 := hB _ _ (num_get (·.2) ls n (by omega))
  generalize ls.getD n (0, 0) = x at x0 x1 hx
  obtain ⟨z1, z2⟩ := x
  simp only at x0 x1 hx
  have e1 : IntKind.i64.wrap (n : Int) = (n : Int) := by rw [IntKind.wrap_i64]; omega
  have f1 : (0 : Int) < (n : Int) + 1 := by omega
  have f2 : (0 : Int) ≤ (n : Int) := by omega
  have f3 : (n : Int) < (n : Int) + 1 := by omega
  clear hf h hA hB hg hn
  by_cases hr : r ≤ z1
  · clear hx
    go_enter Try.func14, Try.ntmps14
    go_wp2_with fail
    go_ret
    exact ⟨rfl, Upd.refl _ _⟩
  · have k1 : z1 < r := by omega
    have k2 : t < z2 := by omega
    clear hx
    go_enter Try.func14, Try.ntmps14
    go_wp2_with fail
    go_ret
    exact ⟨rfl, Upd.refl _ _⟩
end
end Go.Proofs.Ytoepflfchcoogaa
