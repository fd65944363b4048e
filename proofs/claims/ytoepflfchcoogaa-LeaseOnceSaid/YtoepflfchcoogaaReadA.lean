/- Ask of the reads. -/
import Derived.Test.YtoepflfchcoogaaReadO
namespace Go.Proofs.Ytoepflfchcoogaa
open Go.RowKit
set_option linter.unusedVariables false
set_option linter.unusedSimpArgs false
attribute [local go_sem ↓] Go.wp_at_zero Go.wp_at_succ
theorem box_cell (W : World) (v : Value) (t : TypeId) : (W.alloc (.cells #[v] t)).cell? ⟨W.heap.size, 0, none⟩ = some v := by
  have h : (W.alloc (.cells #[v] t)).heap[W.heap.size]? = some (.cells #[v] t) := heap_alloc_new W _
  rw [cell_of_row _ _ _ _ _ (0, 0) h]
  rfl
/-- Ask: the answer, and who waits then. -/
def askL (ls : List (Int × Int)) (id ix : Int) : Int × List (Int × Int) :=
  if ix < 0 then (1, ls) else if 0 ≤ idxOf id ls then (5, ls) else if 100 ≤ ls.length then (4, ls) else (0, ls ++ [(id, ix)])
theorem askL_len {ls : List (Int × Int)} (h : ls.length ≤ 100) (id ix : Int) : (askL ls id ix).2.length ≤ 100 := by
  unfold askL
  split
  · exact h
  · split
    · exact h
    · split
      · exact h
      · simp; omega
theorem RdGrew.of {base : Nat} {F : Nat → Prop} {W W' : World} {p : Nat} {v : Value} {ls : List (Int × Int)} (hF : ∀ k, rdfoot p v k → F k) (hFt : Foot base F W) (hb : base ≤ W.heap.size) (hg : RdGrew base (rdfoot p v) W p W' ls) : RdGrew base F W p W' ls := by
  obtain ⟨F', ⟨v', h1, h2, h3⟩, h4, h5⟩ := hg
  refine ⟨more F W W', ⟨v', h1, fun k hk => ?_, more_foot hFt hb h4.size⟩, more_step (h4.mono fun k _ hk => hF k hk)⟩
  rcases h5 k (h2 k hk) with e | e
  · exact .inl (hF k e)
  · exact .inr ⟨e, (h1.foot k hk).2⟩
section
variable {base : Nat} {F : Nat → Prop} {W : World} {p : Nat} {v : Value} {ls : List (Int × Int)}
theorem ask_neg (id ix : Int) (h : ix < 0) : Calls Try.prog 20 #[.pointer (some ⟨p, 0, none⟩), .int .i64 id, .int .i64 ix] W fun e w' => e = .returned (.int .i64 1) ∧ Same W w' := by
  go_enter Try.func20, Try.ntmps20
  go_wp2_with fail
  go_ret
  exact ⟨rfl, (Upd.refl _ _).alloc _⟩
theorem ask_known (hv : RdV base W p v ls) (id ix : Int) (h : 0 ≤ ix) (hk : 0 ≤ idxOf id ls) : Calls Try.prog 20 #[.pointer (some ⟨p, 0, none⟩), .int .i64 id, .int .i64 ix] W fun e w' => e = .returned (.int .i64 5) ∧ Same W w' := by
  have hC := fun w' (hs : Same W w') (b : Nat) (hc : w'.cell? ⟨b, 0, none⟩ = some (.int .i64 id)) => contains_any v ls id b w' (Rdr.same hv.2.2.1.rdr hs) hc
  generalize idxOf id ls = I at hC hk
  rw [show decide (0 ≤ I) = true from decide_eq_true hk] at hC
  obtain ⟨⟨c0, c1⟩, hf⟩ := hv.2.1
  have hp := hv.2.1.lt
  have HC := Lib.hid hC
  clear hC hf hv hk
  go_enter Try.func20, Try.ntmps20
  go_wp2_with fail
  refine (HC.out _ ((Upd.refl _ _).alloc _) W.heap.size (box_cell W _ _)).mono ?_
  rintro r w1 ⟨rfl, hs1⟩
  have HS := Lib.hid (Same.trans ((Upd.refl (fun _ => False) _).alloc _) hs1)
  clear hs1
  go_wp2_with fail
  go_ret
  exact ⟨rfl, HS.out⟩
theorem ask_full (hv : RdV base W p v ls) (id ix : Int) (h : 0 ≤ ix) (hk : ¬ 0 ≤ idxOf id ls) (hl : 100 ≤ ls.length) : Calls Try.prog 20 #[.pointer (some ⟨p, 0, none⟩), .int .i64 id, .int .i64 ix] W fun e w' => e = .returned (.int .i64 4) ∧ Same W w' := by
  have hC := fun w' (hs : Same W w') (b : Nat) (hc : w'.cell? ⟨b, 0, none⟩ = some (.int .i64 id)) => contains_any v ls id b w' (Rdr.same hv.2.2.1.rdr hs) hc
  generalize idxOf id ls = I at hC hk
  rw [show decide (0 ≤ I) = false from decide_eq_false hk] at hC
  obtain ⟨A, m, cap, rfl, h1, h2, h3⟩ := hv.2.2.1.open_
  rw [sent_length] at h1
  obtain rfl : m = ls.length := by omega
  obtain ⟨⟨c0, c1⟩, hf⟩ := hv.2.1
  have hp := hv.2.1.lt
  have HC := Lib.hid hC
  have g1 : (100 : Int) ≤ (ls.length : Int) := by omega
  clear hC hf hv hk h1
  go_enter Try.func20, Try.ntmps20
  go_wp2_with fail
  refine (HC.out _ ((Upd.refl _ _).alloc _) W.heap.size (box_cell W _ _)).mono ?_
  rintro r w1 ⟨rfl, hs1⟩
  have hs2 := Same.trans ((Upd.refl (fun _ => False) W).alloc _) hs1
  have d0 := hs2.cell c0 (fun h => h)
  have HS := Lib.hid hs2
  clear hs1 hs2
  go_wp2_with fail
  go_ret
  exact ⟨rfl, HS.out⟩
theorem ask_new (hv : RdV base W p v ls) (hb : base ≤ W.heap.size) (id ix : Int) (h : 0 ≤ ix) (hk : ¬ 0 ≤ idxOf id ls) (hl : ls.length < 100) : Calls Try.prog 20 #[.pointer (some ⟨p, 0, none⟩), .int .i64 id, .int .i64 ix] W fun e w' => e = .returned (.int .i64 0) ∧ RdGrew base (rdfoot p v) W p w' (ls ++ [(id, ix)]) := by
  have hC := fun w' (hs : Same W w') (b : Nat) (hc : w'.cell? ⟨b, 0, none⟩ = some (.int .i64 id)) => contains_any v ls id b w' (Rdr.same hv.2.2.1.rdr hs) hc
  generalize idxOf id ls = I at hC hk
  rw [show decide (0 ≤ I) = false from decide_eq_false hk] at hC
  obtain ⟨A, m, cap, rfl, h1, h2, h3⟩ := hv.2.2.1.open_
  rw [sent_length] at h1
  obtain rfl : m = ls.length := by omega
  obtain ⟨⟨c0, c1⟩, hf⟩ := hv.2.1
  have hp := hv.2.1.lt
  have HC := Lib.hid hC
  have HV := Lib.hid hv
  have g1 : ¬ (100 : Int) ≤ (ls.length : Int) := by omega
  have HP : Hid (pushL ls (id, ix) = ls ++ [(id, ix)]) := Lib.hid (if_pos hl)
  have HL := Lib.hid hl
  clear hC hf hv hk h1 hl
  go_enter Try.func20, Try.ntmps20
  go_wp2_with fail
  refine (HC.out _ ((Upd.refl _ _).alloc _) W.heap.size (box_cell W _ _)).mono ?_
  rintro r w1 ⟨rfl, hs1⟩
  have hs2 := Same.trans ((Upd.refl (fun _ => False) W).alloc _) hs1
  have d0 := hs2.cell c0 (fun h => h)
  have e0 := hs1.cell (box_cell W (.int .i64 id) 2) (fun h => h)
  have hz := Nat.le_trans hb hs2.size
  have hv1 := HV.out.upd hs2 (fun _ _ h => h)
  have hn : ¬ rdfoot p (.slice A ls.length cap) W.heap.size := fun e => by have := (HV.out.foot _ e).2; omega
  have HV1 := Lib.hid hv1
  have HS := Lib.hid hs2
  clear hs1 hs2 hv1 HC
  generalize W.heap.size = B at e0 hn ⊢
  go_wp2_with fail
  go_region_held3 (fun w' => w'.cell? ⟨B, 0, none⟩ = some (.int .i64 id)) (first | assumption | exact (Upd.refl (fun _ => False) _).drew.cell e0 (fun h => h) | exact z1) (first
    | (go_at_call 40; refine (rpush_any (HV1.out.upd (Upd.refl _ _).drew (fun _ _ h => h)) hz (by have := HL.out; omega) id ix).mono ?_; rintro r w3 ⟨rfl, hg⟩; have z1 := hg.choose_spec.2.1.cell ((Upd.refl (fun _ => False) _).drew.cell e0 (fun h => h)) hn; have HG := Lib.hid hg; clear hg))
  all_goals
    go_wp2_with fail
    go_ret
    obtain ⟨F', q1, q2⟩ := HG.out
    rw [HP.out] at q1
    exact ⟨rfl, F', q1, Step.trans (Step.same (Same.trans HS.out (Upd.refl _ _).drew)) q2⟩
theorem ask_o (ho : RdO base F W p ls) (hb : base ≤ W.heap.size) (id ix : Int) : Calls Try.prog 20 #[.pointer (some ⟨p, 0, none⟩), .int .i64 id, .int .i64 ix] W fun e w' => e = .returned (.int .i64 (askL ls id ix).1) ∧ RdGrew base F W p w' (askL ls id ix).2 := by
  obtain ⟨v, hv, hF, hFt⟩ := _root_.id ho
  unfold askL
  split
  · rename_i h
    refine (ask_neg id ix h).mono ?_
    rintro e w' ⟨rfl, hs⟩
    exact ⟨rfl, RdGrew.same ho hs⟩
  · rename_i h
    split
    · rename_i hk
      refine (ask_known hv id ix (by omega) hk).mono ?_
      rintro e w' ⟨rfl, hs⟩
      exact ⟨rfl, RdGrew.same ho hs⟩
    · rename_i hk
      split
      · rename_i hl
        refine (ask_full hv id ix (by omega) hk hl).mono ?_
        rintro e w' ⟨rfl, hs⟩
        exact ⟨rfl, RdGrew.same ho hs⟩
      · rename_i hl
        refine (ask_new hv hb id ix (by omega) hk (by omega)).mono ?_
        rintro e w' ⟨rfl, hs⟩
        exact ⟨rfl, hs.of hF hFt hb⟩
end
end Go.Proofs.Ytoepflfchcoogaa
