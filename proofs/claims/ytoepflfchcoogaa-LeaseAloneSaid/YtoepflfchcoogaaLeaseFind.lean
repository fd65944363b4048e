/- lease.find: the last remembered round that is not above one. -/
import Derived.Test.YtoepflfchcoogaaLeaseIt
namespace Go.Proofs.Ytoepflfchcoogaa
open Go.RowKit Go.Shelf
set_option linter.unusedVariables false
set_option linter.unusedSimpArgs false
attribute [local go_sem] Oper.semAt_some

theorem cell_alloc_l {W : World} {a : Addr} {v : Value} (o : Obj) (h : W.cell? a = some v) : (W.alloc o).cell? a = some v := cell_kept h (World.grownBy_alloc W o none) (fun r e => by cases e)
theorem frozen_alloc_l {W : World} {a : Addr} {v : Value} (o : Obj) (h : W.cell? a = some v) (hf : W.frozen? a = false) : (W.alloc o).frozen? a = false := (frozen_kept h (World.grownBy_alloc W o none) (fun r e => by cases e)).trans hf
/-- A row of rounds. -/
def SentAt (w : World) (v : Value) (ls : List (Int × Int)) : Prop := Rdr w v 2 (ls.flatMap sentC)
theorem SentAt.open_ {w : World} {v : Value} {ls : List (Int × Int)} (h : SentAt w v ls) : ∃ A cap, v = .slice A ls.length cap ∧ ls.length ≤ cap ∧ cap ≤ 9223372036854775807 := by
  obtain ⟨A, n, cap, rfl, h1, h2, h3, _⟩ := h
  rw [sent_length] at h1
  exact ⟨A, cap, by congr 1; omega, by omega, h3⟩
theorem SentAt.cells {w : World} {A : Option Addr} {n cap : Nat} {ls : List (Int × Int)} (h : SentAt w (.slice A n cap) ls) : ∀ j, j < ls.length → ∃ b off, A = some ⟨b, off, none⟩ ∧ b < w.heap.size ∧ w.cell? ⟨b, off + j * 2, none⟩ = some (.int .i64 (ls.getD j (0, 0)).1) ∧ w.cell? ⟨b, off + j * 2 + 1, none⟩ = some (.int .i64 (ls.getD j (0, 0)).2) := by
  intro j hj
  obtain ⟨A', n', cap', e, h1, h2, h3, h4⟩ := h
  injection e with e1 e2 e3
  subst e1
  have hg : ls.getD j (0, 0) = ls[j]'hj := by rw [List.getD_eq_getElem?_getD, List.getElem?_eq_getElem hj]; rfl
  rcases h4 with h4 | ⟨b, off, rfl, hc⟩
  · have := sent_length ls
    rw [h4] at this
    simp at this
    omega
  · obtain ⟨g0, g1⟩ := sent_get ls j hj
    have k0 := hc _ _ g0
    have k1 := hc _ _ g1
    rw [hg]
    exact ⟨b, off, rfl, World.block_lt_of_cell? w _ k0, k0, by rw [Nat.add_assoc]; exact k1⟩
theorem backward_stops (F : Fence) (n : Nat) (h7 : F.fn 54) (hro : F.round = none) (hn : 1 ≤ n) (Bs n₀ : Nat) (A : Option Addr) (cap : Nat) (ls : List (Int × Int)) (hlen : ls.length ≤ 100000) (w : World) (hBs : Bs < n₀) (hn₀ : n₀ ≤ w.heap.size)
    (hc : w.cell? ⟨Bs, 0, none⟩ = some (.slice A ls.length cap)) (hI : ∀ j, j < ls.length → ∃ b off, A = some ⟨b, off, none⟩ ∧ b < n₀ ∧ w.cell? ⟨b, off + j * 2, none⟩ = some (.int .i64 (ls.getD j (0, 0)).1) ∧ w.cell? ⟨b, off + j * 2 + 1, none⟩ = some (.int .i64 (ls.getD j (0, 0)).2)) :
    SeqStopsK F n Try.prog 54 #[.pointer (some ⟨Bs, 0, none⟩)] bxV (Below n₀) (fun ys => ys = come ls 0) (fun pre => ∃ k, k < ls.length ∧ pre = come ls k) ls.length w := fun l J Jx W hW _ _ hY h0 => by
  refine (backward1_in F n h7 hro hn l Bs n₀ A cap ls hlen J Jx hY W ((hW.cell (p := ⟨Bs, 0, none⟩) (Nat.lt_of_lt_of_le hBs hn₀)).trans hc) hBs (fun j hj => ?_) h0).mono ?_
  · obtain ⟨b, off, e, hb, k0, k1⟩ := hI j hj
    exact ⟨b, off, e, hb, (hW.cell (p := ⟨b, off + j * 2, none⟩) (Nat.lt_of_lt_of_le hb hn₀)).trans k0, (hW.cell (p := ⟨b, off + j * 2 + 1, none⟩) (Nat.lt_of_lt_of_le hb hn₀)).trans k1⟩
  · rintro e W' ⟨he, hj | ⟨k, hk, hj⟩⟩
    · exact ⟨he, .inl ⟨_, rfl, hj⟩⟩
    · exact ⟨he, .inr ⟨_, ⟨k, hk, rfl⟩, hj⟩⟩
theorem backward_in (F : Fence) (n : Nat) (h5 : F.fn 46) (hro : F.round = none) (a : Option Addr) (len cap : Nat) (w : World) :
    CallsIn F n Try.prog 46 #[.slice a len cap] w fun e w' => e = .returned (.func (.func 54) #[] #[.pointer (some ⟨w.heap.size, 0, none⟩)]) ∧ w' = w.alloc (.cells #[.slice a len cap] 65) := by
  refine callsIn_of_wp Try.func46 rfl h5 ?_ hro
  simp only [Try.ntmps46, List.size_toArray, List.length_cons, List.length_nil, Nat.reduceAdd, Nat.reduceSub, Array.replicate_succ, Array.replicate_zero, List.push_toArray, List.append_toArray, List.nil_append, List.cons_append]
  gi_wp2
  go_ret
  exact ⟨rfl, rfl⟩
/-- What find answers. -/
def findL (ls : List (Int × Int)) (r : Int) : Int × Int := (ls.reverse.find? fun x => decide (x.1 ≤ r)).getD (0, 0)
theorem come_mem (ls : List (Int × Int)) (k : Nat) (y : BX) : y ∈ come ls k ↔ ∃ j, k ≤ j ∧ j < ls.length ∧ y = (j, ls.getD j (0, 0)) := by
  unfold come
  rw [List.mem_map]
  constructor
  · rintro ⟨j, hj, rfl⟩
    rw [List.mem_reverse, List.mem_drop_iff_getElem] at hj
    obtain ⟨i, hi, e⟩ := hj
    simp at hi e
    exact ⟨j, by omega, by omega, rfl⟩
  · rintro ⟨j, h1, h2, rfl⟩
    refine ⟨j, ?_, rfl⟩
    rw [List.mem_reverse, List.mem_drop_iff_getElem]
    exact ⟨j - k, by simp; omega, by simp; omega⟩
theorem findL_none (ls : List (Int × Int)) (r : Int) (h : ∀ y ∈ come ls 0, r < y.2.1) : findL ls r = (0, 0) := by
  unfold findL
  have : (ls.reverse.find? fun x => decide (x.1 ≤ r)) = none := by
    rw [List.find?_eq_none]
    intro x hx
    rw [List.mem_reverse] at hx
    obtain ⟨j, hj, rfl⟩ := List.getElem_of_mem hx
    have := h (j, ls.getD j (0, 0)) ((come_mem ls 0 _).2 ⟨j, by omega, hj, rfl⟩)
    rw [List.getD_eq_getElem?_getD, List.getElem?_eq_getElem hj] at this
    simp at this ⊢
    exact this
  rw [this]
  rfl
theorem findL_at (ls : List (Int × Int)) (r : Int) (k : Nat) (hk : k < ls.length) (h : ∀ y ∈ come ls (k + 1), r < y.2.1) (h2 : (ls.getD k (0, 0)).1 ≤ r) : findL ls r = ls.getD k (0, 0) := by
  unfold findL
  have hd : ls.getD k (0, 0) = ls[k] := by rw [List.getD_eq_getElem?_getD, List.getElem?_eq_getElem hk]; rfl
  rw [hd] at h2 ⊢
  have e : ls = ls.take k ++ ls[k] :: ls.drop (k + 1) := by simp
  have hn : ((ls.drop (k + 1)).reverse.find? fun x => decide (x.1 ≤ r)) = none := by
    rw [List.find?_eq_none]
    intro x hx
    rw [List.mem_reverse, List.mem_drop_iff_getElem] at hx
    obtain ⟨i, hi, rfl⟩ := hx
    have := h (k + 1 + i, ls.getD (k + 1 + i) (0, 0)) ((come_mem ls (k + 1) _).2 ⟨k + 1 + i, by omega, by omega, rfl⟩)
    rw [List.getD_eq_getElem?_getD, List.getElem?_eq_getElem (by omega)] at this
    simp at this ⊢
    exact this
  have : (ls.reverse.find? fun x => decide (x.1 ≤ r)) = some ls[k] := by
    conv => lhs; rw [e]
    rw [List.reverse_append, List.reverse_cons, List.append_assoc, List.find?_append, hn]
    simp [h2]
  rw [this]
  rfl
/-- Between two rounds. -/
def FI (w W0 : World) (r : Int) (pre : List BX) (W : World) : Prop :=
  ((∀ y ∈ pre, r < y.2.1) ∧ W.cell? ⟨w.heap.size, 0, none⟩ = some (.int .i64 r) ∧ W.cell? ⟨w.heap.size + 1, 0, none⟩ = some (.int .i64 0) ∧ W.cell? ⟨w.heap.size + 1, 1, none⟩ = some (.int .i64 0) ∧ W.frozen? ⟨w.heap.size + 1, 0, none⟩ = false ∧ W.frozen? ⟨w.heap.size + 1, 1, none⟩ = false) ∧ Below w.heap.size W0 W
/-- A round was found: the last of those that came. -/
def Found (pre : List BX) (r : Int) (x : BX) : Prop := ∃ q, pre = q ++ [x] ∧ (∀ y ∈ q, r < y.2.1) ∧ x.2.1 ≤ r
/-- A round has left. -/
def FX (w W0 : World) (r : Int) (c : Code) (pre : List BX) (W : World) : Prop :=
  (c = .ret ∧ ∃ x, Found pre r x ∧ W.cell? ⟨w.heap.size + 1, 0, none⟩ = some (.int .i64 x.2.1) ∧ W.cell? ⟨w.heap.size + 1, 1, none⟩ = some (.int .i64 x.2.2)) ∧ Below w.heap.size W0 W
theorem FI.own {w W0 : World} {r : Int} {B : Nat} (h1 : w.heap.size ≤ W0.heap.size) (h2 : w.heap.size ≤ B) : OwnFrom B (FI w W0 r) :=
  OwnFrom.and (Own.from (fun s A B row hs hg hr => ⟨hs.1, cell_kept hs.2.1 hg hr, cell_kept hs.2.2.1 hg hr, cell_kept hs.2.2.2.1 hg hr, (frozen_kept hs.2.2.1 hg hr).trans hs.2.2.2.2.1, (frozen_kept hs.2.2.2.1 hg hr).trans hs.2.2.2.2.2⟩) _) (ownFrom_below h1 h2)
theorem FX.own {w W0 : World} {r : Int} {B : Nat} (h1 : w.heap.size ≤ W0.heap.size) (h2 : w.heap.size ≤ B) (c : Code) : OwnFrom B (FX w W0 r c) :=
  OwnFrom.and (Own.from (fun s A B row hs hg hr => ⟨hs.1, hs.2.choose, hs.2.choose_spec.1, cell_kept hs.2.choose_spec.2.1 hg hr, cell_kept hs.2.choose_spec.2.2 hg hr⟩) _) (ownFrom_below h1 h2)
theorem FI.done {w W0 W : World} {r : Int} {pre : List BX} (h : FI w W0 r pre W) (hz : W0.heap.size = w.heap.size + 3) (x : BX) (hx : x.2.1 ≤ r) : FX w W0 r .ret (pre ++ [x]) ((W.setCell ⟨w.heap.size + 1, 0, none⟩ (.int .i64 x.2.1)).setCell ⟨w.heap.size + 1, 1, none⟩ (.int .i64 x.2.2)) := by
  obtain ⟨⟨i1, i2, i3, i4, i5, i6⟩, hB⟩ := h
  have hne : (⟨w.heap.size + 1, 0, none⟩ : Addr) ≠ ⟨w.heap.size + 1, 1, none⟩ := by intro e; injection e with _ e; cases e
  refine ⟨⟨rfl, x, ⟨pre, rfl, i1, hx⟩, ?_, ?_⟩, (hB.setCell (p := ⟨w.heap.size + 1, 0, none⟩) (by simp) _).setCell (p := ⟨w.heap.size + 1, 1, none⟩) (by simp) _⟩
  · rw [World.cell?_setCell_other _ _ _ _ hne.symm]
    exact World.cell?_setCell_same _ _ _ i3
  · exact World.cell?_setCell_same _ _ _ (by rw [World.cell?_setCell_other _ _ _ _ hne]; exact i4)
theorem found_at {ls : List (Int × Int)} {k : Nat} {r : Int} {x : BX} (hk : k < ls.length) (h : Found (come ls k) r x) : x.2 = findL ls r := by
  obtain ⟨q, e, h1, h2⟩ := h
  rw [come_succ ls k hk] at e
  obtain ⟨rfl, e2⟩ := List.append_inj' e rfl
  injection e2 with e2
  subst e2
  exact (findL_at ls r k hk h1 h2).symm
set_option maxRecDepth 100000 in
set_option maxHeartbeats 2000000 in
theorem find_in (F : Fence) (n : Nat) (h3 : F.fn 36) (h4 : F.fn 46) (h5 : F.fn 54) (hro : F.round = none) (hn : 3 ≤ n) (p : Nat) (A : Option Addr) (cap : Nat) (ls : List (Int × Int)) (hlen : ls.length ≤ 100000) (r : Int) (w : World)
    (hc : w.cell? ⟨p, 1, none⟩ = some (.slice A ls.length cap)) (hI : ∀ j, j < ls.length → ∃ b off, A = some ⟨b, off, none⟩ ∧ b < w.heap.size ∧ w.cell? ⟨b, off + j * 2, none⟩ = some (.int .i64 (ls.getD j (0, 0)).1) ∧ w.cell? ⟨b, off + j * 2 + 1, none⟩ = some (.int .i64 (ls.getD j (0, 0)).2)) :
    CallsIn F n Try.prog 36 #[.pointer (some ⟨p, 0, none⟩), .int .i64 r] w fun e W' => e = .returned (.agg #[.int .i64 (findL ls r).1, .int .i64 (findL ls r).2]) ∧ Below w.heap.size w W' := by
  have h1 : 1 ≤ n := by omega
  have hplt : p < w.heap.size := World.block_lt_of_cell? w _ hc
  refine callsIn_of_wp_marks Try.func36 rfl h3 ?_ hro
  simp only [Try.ntmps36, List.size_toArray, List.length_cons, List.length_nil, Nat.reduceAdd, Nat.reduceSub, Array.replicate_succ, Array.replicate_zero, List.push_toArray, List.append_toArray, List.nil_append, List.cons_append]
  gi_wp2_with (gi_at_call 46; refine (backward_in F (n - 1) h4 hro _ _ _ _).mono ?_; rintro e w' ⟨rfl, rfl⟩)
  have hB0 : Below w.heap.size w (((w.alloc (.cells #[.int .i64 r] 2)).alloc (.cells #[.int .i64 0, .int .i64 0] 71)).alloc (.cells #[.slice A ls.length cap] 65)) := (((Below.refl _ w).alloc (Nat.le_refl _) _).alloc (by simp) _).alloc (by simp; omega) _
  have hsz : (((w.alloc (.cells #[.int .i64 r] 2)).alloc (.cells #[.int .i64 0, .int .i64 0] 71)).alloc (.cells #[.slice A ls.length cap] 65)).heap.size = w.heap.size + 3 := by simp
  have k0 : (((w.alloc (.cells #[.int .i64 r] 2)).alloc (.cells #[.int .i64 0, .int .i64 0] 71)).alloc (.cells #[.slice A ls.length cap] 65)).cell? ⟨w.heap.size, 0, none⟩ = some (.int .i64 r) := by
    refine cell_alloc_l _ (cell_alloc_l _ ?_)
    rw [cell_of_row _ _ _ _ _ (0, 0) (heap_alloc_new w _)]
    rfl
  have k1 : ∀ j u, (#[Value.int .i64 0, .int .i64 0] : Array Value)[j]? = some u → (((w.alloc (.cells #[.int .i64 r] 2)).alloc (.cells #[.int .i64 0, .int .i64 0] 71)).alloc (.cells #[.slice A ls.length cap] 65)).cell? ⟨w.heap.size + 1, j, none⟩ = some u ∧ (((w.alloc (.cells #[.int .i64 r] 2)).alloc (.cells #[.int .i64 0, .int .i64 0] 71)).alloc (.cells #[.slice A ls.length cap] 65)).frozen? ⟨w.heap.size + 1, j, none⟩ = false := by
    intro j u hj
    have hn := heap_alloc_new (w.alloc (.cells #[.int .i64 r] 2)) (.cells #[.int .i64 0, .int .i64 0] 71)
    simp only [World.size_alloc] at hn
    have hc : ((w.alloc (.cells #[.int .i64 r] 2)).alloc (.cells #[.int .i64 0, .int .i64 0] 71)).cell? ⟨w.heap.size + 1, j, none⟩ = some u := by
      rw [cell_of_row _ _ _ _ _ (0, 0) hn]
      exact hj
    refine ⟨cell_alloc_l _ hc, frozen_alloc_l _ hc ?_⟩
    unfold World.frozen?
    rw [hn]
    simp
  have k2 : (((w.alloc (.cells #[.int .i64 r] 2)).alloc (.cells #[.int .i64 0, .int .i64 0] 71)).alloc (.cells #[.slice A ls.length cap] 65)).cell? ⟨w.heap.size + 1 + 1, 0, none⟩ = some (.slice A ls.length cap) := by
    have hn := heap_alloc_new ((w.alloc (.cells #[.int .i64 r] 2)).alloc (.cells #[.int .i64 0, .int .i64 0] 71)) (.cells #[.slice A ls.length cap] 65)
    simp only [World.size_alloc] at hn
    rw [cell_of_row _ _ _ _ _ (0, 0) hn]
    rfl
  obtain ⟨W0, hW0⟩ : ∃ W0, ((w.alloc (.cells #[.int .i64 r] 2)).alloc (.cells #[.int .i64 0, .int .i64 0] 71)).alloc (.cells #[.slice A ls.length cap] 65) = W0 := ⟨_, rfl⟩
  rw [hW0] at hB0 hsz k0 k2 ⊢
  simp only [hW0] at k1
  clear hW0
  have j0 := k1 0 _ rfl
  have j1 := k1 1 _ rfl
  refine wpIn_rangeFunc_ownH hro h1 (gf := 54) (lb := #[.pointer (some ⟨w.heap.size + 1 + 1, 0, none⟩)]) rfl h5 (enters_of Try.func54 (by kernel_rfl) rfl)
    (backward_stops F (n - 1) h5 hro (by omega) (w.heap.size + 1 + 1) W0.heap.size A cap ls hlen W0 (by omega) (Nat.le_refl _) k2 (fun j hj => by
      obtain ⟨b, off, e, hb, x0, x1⟩ := hI j hj
      exact ⟨b, off, e, by omega, (hB0.cell (p := ⟨b, off + j * 2, none⟩) hb).trans x0, (hB0.cell (p := ⟨b, off + j * 2 + 1, none⟩) hb).trans x1⟩)) belowK_t (belowK_b (Nat.le_refl _)) (Below.refl _ _) (fun _ => rfl)
    (FI w W0 r) (FX w W0 r) (FI.own hB0.size (by omega)) (fun c => FX.own hB0.size (by omega) c)
    ⟨⟨by simp, k0, j0.1, j1.1, j0.2, j1.2⟩, Below.refl _ _⟩
    (fun x a' W => ∃ Bx, w.heap.size + 1 < Bx ∧ (W.cell? ⟨Bx, 0, none⟩ = some (.int .i64 x.2.1) ∧ W.cell? ⟨Bx, 1, none⟩ = some (.int .i64 x.2.2)) ∧ a' = { tmps := #[.pointer (some ⟨p, 0, none⟩), .int .i64 r, undef, .pointer (some ⟨w.heap.size, 0, none⟩), .pointer (some ⟨w.heap.size + 1, 0, none⟩), undef, .pointer (some ⟨Bx, 0, none⟩), .pointer (some ⟨p, 0, none⟩), .bool true, .pointer (some ⟨p, 0, none⟩), .pointer (some ⟨p, 0, none⟩), .pointer (some ⟨p, 1, none⟩), .pointer (some ⟨p, 1, none⟩), .slice A ls.length cap, .func (.func 54) #[] #[.pointer (some ⟨w.heap.size + 1 + 1, 0, none⟩)], .int .i64 (x.1 : Int), .agg #[.int .i64 x.2.1, .int .i64 x.2.2], undef, undef, undef, undef, undef, undef], defers := [] })
    (fun x a' _ X Y row hs hg hr => by obtain ⟨Bx, h1, h2, h3⟩ := hs; exact ⟨Bx, h1, ⟨cell_kept h2.1 hg (fun r e => (hr r e).2), cell_kept h2.2 hg (fun r e => (hr r e).2)⟩, h3⟩)
    ?assign ?body ?done ?stop
  case assign =>
    rintro l pre ⟨x0, x1, x2⟩ W K hI1 hK
    have hI0 := Lib.hid hI1
    obtain ⟨⟨i1, i2, i3, i4, i5, i6⟩, hB1⟩ := hI1
    have hsW := hB1.size
    clear i1
    simp only [bxV]
    gi_wp2
    have hn := heap_alloc_new W (.cells #[.int .i64 x1, .int .i64 x2] 71)
    exact hK _ _ ((KeepsOthers.alloc _ _).from _) ((Below.refl _ W).alloc hsW _) ((FI.own (B := W0.heap.size) hB0.size (by omega)).alloc _ hI0.out) ⟨W.heap.size, (show w.heap.size + 1 < W.heap.size by omega), ⟨by rw [cell_of_row _ _ _ _ _ (0, 0) hn]; rfl, by rw [cell_of_row _ _ _ _ _ (0, 0) hn]; rfl⟩, rfl⟩
  case body =>
    rintro l pre ⟨x0, x1, x2⟩ a' W hl ⟨rc, hrc⟩ hI1 ⟨Bx, hBx, ⟨b0, b1⟩, rfl⟩ hlt
    have hI0 := Lib.hid hI1
    obtain ⟨⟨i1, i2, i3, i4, i5, i6⟩, hB1⟩ := hI1
    simp only at b0 b1
    have HZ := Lib.hid hsz
    by_cases hle : x1 ≤ r
    · have HD := Lib.hid (hI0.out.done hsz (x0, x1, x2) hle)
      clear i1 hsz
      gi_wp2
      exact ⟨((KeepsOthers.setCell _ _ _).trans (KeepsOthers.setCell _ _ _)).from _, HD.out⟩
    · have hgt : r < x1 := by omega
      have HD : Hid (FI w W0 r (pre ++ [(x0, x1, x2)]) W) := Lib.hid ⟨⟨fun y hy => (List.mem_append.1 hy).elim (i1 y) (fun e => by simp at e; subst e; exact hgt), i2, i3, i4, i5, i6⟩, hB1⟩
      clear i1 hsz
      gi_wp2
      exact ⟨(KeepsOthers.refl _).from _, Below.refl _ _, HD.out⟩
  case done =>
    rintro D ys W hD rfl hI1 hK
    have hI0 := Lib.hid hI1
    obtain ⟨⟨i1, i2, i3, i4, i5, i6⟩, hB1⟩ := hI1
    have HF := Lib.hid (findL_none ls r i1)
    have HZ := Lib.hid hsz
    clear i1 hsz
    gi_wp2
    have hsz := HZ.out
    have hK1 := (KeepsOthers.setCell W ⟨w.heap.size + 1, 0, none⟩ (.int .i64 0)).same D _ hK rfl
    have hK2 := (KeepsOthers.setCell (W.setCell ⟨w.heap.size + 1, 0, none⟩ (.int .i64 0)) ⟨w.heap.size + 1, 1, none⟩ (.int .i64 0)).same D _ hK1 rfl
    have hne : (⟨w.heap.size + 1, 0, none⟩ : Addr) ≠ ⟨w.heap.size + 1, 1, none⟩ := by intro e; injection e with _ e; cases e
    have e0 : ((W.setCell ⟨w.heap.size + 1, 0, none⟩ (.int .i64 0)).setCell ⟨w.heap.size + 1, 1, none⟩ (.int .i64 0)).cell? ⟨w.heap.size + 1, 0, none⟩ = some (.int .i64 0) := by
      rw [World.cell?_setCell_other _ _ _ _ hne.symm]
      exact World.cell?_setCell_same _ _ _ i3
    have e1 : ((W.setCell ⟨w.heap.size + 1, 0, none⟩ (.int .i64 0)).setCell ⟨w.heap.size + 1, 1, none⟩ (.int .i64 0)).cell? ⟨w.heap.size + 1, 1, none⟩ = some (.int .i64 0) :=
      World.cell?_setCell_same _ _ _ (by rw [World.cell?_setCell_other _ _ _ _ hne]; exact i4)
    refine ⟨by simp, .inl ⟨_, _, rfl, run_takeDeferred hK2, ?_⟩⟩
    have q0 := cell_kept e0 (grownBy_putObj' _ D (.deferred none)) (fun r e => by cases e; exact ⟨_, hK2, rfl⟩)
    have q1 := cell_kept e1 (grownBy_putObj' _ D (.deferred none)) (fun r e => by cases e; exact ⟨_, hK2, rfl⟩)
    refine ⟨.agg #[.int .i64 0, .int .i64 0], ?_, by rw [HF.out], ((hB0.trans hB1).setCell (p := ⟨w.heap.size + 1, 0, none⟩) (by simp) _ |>.setCell (p := ⟨w.heap.size + 1, 1, none⟩) (by simp) _).trans (belowK_b (w := w) (Nat.le_refl _) _ D _ _ (by omega) hK2 rfl rfl)⟩
    simp [results, Try.results36, go_sem, q0, q1]
  case stop =>
    rintro D c pre W hD ⟨k, hk, rfl⟩ ⟨⟨rfl, x, hx, c0, c1⟩, hB1⟩ hK
    have HF := Lib.hid (found_at hk hx)
    have HX := Lib.hid hx
    obtain ⟨x0, x1, x2⟩ := x
    simp only at c0 c1
    have HZ := Lib.hid hsz
    clear hx hsz
    gi_wp2
    have hsz := HZ.out
    refine ⟨by simp, .inl ⟨_, _, rfl, run_takeDeferred hK, ?_⟩⟩
    have q0 := cell_kept c0 (grownBy_putObj' _ D (.deferred none)) (fun r e => by cases e; exact ⟨_, hK, rfl⟩)
    have q1 := cell_kept c1 (grownBy_putObj' _ D (.deferred none)) (fun r e => by cases e; exact ⟨_, hK, rfl⟩)
    refine ⟨.agg #[.int .i64 x1, .int .i64 x2], ?_, by rw [← HF.out], (hB0.trans hB1).trans (belowK_b (w := w) (Nat.le_refl _) W D _ _ (by omega) hK rfl rfl)⟩
    simp [results, Try.results36, go_sem, q0, q1]
end Go.Proofs.Ytoepflfchcoogaa
