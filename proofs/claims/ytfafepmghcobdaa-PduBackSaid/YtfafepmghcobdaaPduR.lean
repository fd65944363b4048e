/- Letters (chapter 17): the law's given. -/
import Derived.Test.YtfafepmghcobdaaGb
import Derived.Test.YtfafepmghcobdaaGa
import Derived.OwnWalk
namespace Go.Proofs.Ytfafepmghcobdaa
open Go.RowKit
set_option linter.unusedVariables false
set_option linter.unusedSimpArgs false
set_option maxRecDepth 20000
set_option maxHeartbeats 4000000
def FzAt (w : World) (b : Nat) : Prop := ∀ j, w.frozen? ⟨b, j, none⟩ = false
theorem FzAt.newAt (w : World) (C : Array Value) (t : TypeId) (b : Nat) (hb : b = w.heap.size) : FzAt (w.alloc (.cells C t)) b := by
  subst hb
  intro j
  have h : (w.alloc (.cells C t)).heap[w.heap.size]? = some (.cells C t) := heap_alloc_new w _
  unfold World.frozen?
  rw [h]
  simp
theorem FzAt.upd {S : Nat → Prop} {w w' : World} {b : Nat} (h : FzAt w b) (hu : Upd S w w') (hb : b < w.heap.size) (hn : ¬ S b) : FzAt w' b := fun j => (hu.frozen (p := ⟨b, j, none⟩) hb hn).trans (h j)
theorem BoxAt.newAt (w : World) (p : Pd) (v : Value) (t : TypeId) (b : Nat) (hb : b = w.heap.size) : BoxAt (w.alloc (.cells (pdC p v).toArray t)) b p v := hb ▸ BoxAt.new w p v t
/-- A box that is filled cell by cell. -/
def BoxTo (w : World) (b : Nat) (p : Pd) (v : Value) (k : Nat) : Prop := (∀ j u, j < k → (pdC p v)[j]? = some u → w.cell? ⟨b, j, none⟩ = some u) ∧ ∀ j, k ≤ j → j < 15 → (w.cell? ⟨b, j, none⟩).isSome = true
theorem BoxTo.step {w : World} {b : Nat} {p : Pd} {v u : Value} {k : Nat} (h : BoxTo w b p v k) (hk : k < 15) (hu : (pdC p v)[k]? = some u) : BoxTo (w.setCell ⟨b, k, none⟩ u) b p v (k + 1) := by
  obtain ⟨h1, h2⟩ := h
  refine ⟨fun j x hj hx => ?_, fun j hj h15 => ?_⟩
  · by_cases hjk : j = k
    · subst hjk
      rw [hu] at hx
      injection hx with hx
      subst hx
      obtain ⟨old, ho⟩ := Option.isSome_iff_exists.1 (h2 j (Nat.le_refl _) hk)
      exact World.cell?_setCell_same _ _ _ ho
    · rw [World.cell?_setCell_other _ _ _ _ (by intro e; injection e with _ e; omega)]
      exact h1 j x (by omega) hx
  · rw [World.cell?_setCell_other _ _ _ _ (by intro e; injection e with _ e; omega)]
    exact h2 j (by omega) h15
theorem BoxTo.skip {w : World} {b b' i : Nat} {p : Pd} {v u : Value} {k : Nat} (h : BoxTo w b p v k) (hb : b ≠ b') : BoxTo (w.setCell ⟨b', i, none⟩ u) b p v k := by
  have e : ∀ j, (w.setCell ⟨b', i, none⟩ u).cell? ⟨b, j, none⟩ = w.cell? ⟨b, j, none⟩ := fun j => World.cell?_setCell_other _ _ _ _ (by intro e; injection e with e _; omega)
  exact ⟨fun j x hj hx => (e j).trans (h.1 j x hj hx), fun j hj h15 => by rw [e j]; exact h.2 j hj h15⟩
theorem BoxTo.zero {w : World} {b : Nat} (p q : Pd) (v u : Value) (h : BoxAt w b q u) : BoxTo w b p v 0 := ⟨fun j u hj => absurd hj (Nat.not_lt_zero _), fun j _ hj => by
  rw [h j _ (List.getElem?_eq_getElem (show j < (pdC q u).length from hj))]; rfl⟩
theorem BoxTo.full {w : World} {b : Nat} {p : Pd} {v : Value} (h : BoxTo w b p v 15) : BoxAt w b p v := fun j u hj => h.1 j u (by
  have := (List.getElem?_eq_some_iff.1 hj).1
  exact this) hj
/-- A result that lies in a box. -/
theorem given_ret (p : Pd) (A : Option Addr) (n cap : Nat) {a : Act} {w' : World} {b : Nat} {Q : Ending → World → Prop} (hp : a.tmps[2]? = some (.pointer (some ⟨b, 0, none⟩))) (hdf : a.defers = []) (hbox : BoxAt w' b p (.slice A n cap)) (hQ : Q (.returned (pdA p (.slice A n cap))) w') : bodyPost Try.prog Try.f13 Q .ret a w' := by
  have k0 := hbox 0 _ rfl
  have k1 := hbox 1 _ rfl
  have k2 := hbox 2 _ rfl
  have k3 := hbox 3 _ rfl
  have k4 := hbox 4 _ rfl
  have k5 := hbox 5 _ rfl
  have k6 := hbox 6 _ rfl
  have k7 := hbox 7 _ rfl
  have k8 := hbox 8 _ rfl
  have k9 := hbox 9 _ rfl
  have k10 := hbox 10 _ rfl
  have k11 := hbox 11 _ rfl
  have k12 := hbox 12 _ rfl
  have k13 := hbox 13 _ rfl
  have k14 := hbox 14 _ rfl
  refine bodyPost_ret (v := .agg #[.int .i64 p.op, .bool p.now, .int .i64 p.flags, .int .i64 p.b2, .int .i64 p.b3, .int .u64 p.lun, .int .u32 p.task, .int .u32 (wd p 0), .int .u32 (wd p 1), .int .u32 (wd p 2), .int .u32 (wd p 3), .int .u32 (wd p 4), .int .u32 (wd p 5), .int .u32 (wd p 6), .slice A n cap]) (by simp [results, Try.results13, go_sem, asAddr, Result.andThen, hp, k0, k1, k2, k3, k4, k5, k6, k7, k8, k9, k10, k11, k12, k13, k14]) hdf hQ
theorem given_end (p : Pd) {w w2 wz : World} {A2 : Option Addr} {cp2 : Nat} (hs : Same w w2) (hf : Fresh (w.heap.size + 3) w2 (.slice A2 p.data.length cp2) p.data) (hu : Upd (fun k => k = w.heap.size + 1 ∨ k = w.heap.size + 1 + 1) w2 wz) :
    ∃ A' n' cap', Ending.returned (pdA p (.slice A2 p.data.length cp2)) = .returned (pdA p (.slice A' n' cap')) ∧ Fresh w.heap.size wz (.slice A' n' cap') p.data ∧ Same w wz :=
  ⟨A2, _, cp2, rfl, (Fresh.upd hf hu (hf.off (fun k hk he => by omega))).mono (by omega), Same.into hs hu (fun k hk => by omega)⟩
theorem given_any (p : Pd) (A : Option Addr) (n cap : Nat) (w : World) (h : Bs w (.slice A n cap) p.data) (hl : p.data.length ≤ 140737488351232) : Calls Try.prog 13 #[pdA p (.slice A n cap)] w fun e w' => ∃ A' n' cap', e = .returned (pdA p (.slice A' n' cap')) ∧ Fresh w.heap.size w' (.slice A' n' cap') p.data ∧ Same w w' := by
  have hbd : ∀ W, (Instr.build 40 #[(0, .int .i64 p.op), (1, .bool p.now), (2, .int .i64 p.flags), (3, .int .i64 p.b2), (4, .int .i64 p.b3), (5, .int .u64 p.lun), (6, .int .u32 p.task), (7, .agg #[.int .u32 (wd p 0), .int .u32 (wd p 1), .int .u32 (wd p 2), .int .u32 (wd p 3), .int .u32 (wd p 4), .int .u32 (wd p 5), .int .u32 (wd p 6)])]).run Try.prog W = .ok (.agg #[.int .i64 p.op, .bool p.now, .int .i64 p.flags, .int .i64 p.b2, .int .i64 p.b3, .int .u64 p.lun, .int .u32 p.task, .int .u32 (wd p 0), .int .u32 (wd p 1), .int .u32 (wd p 2), .int .u32 (wd p 3), .int .u32 (wd p 4), .int .u32 (wd p 5), .int .u32 (wd p 6), .slice none 0 0]) W := fun W => run_build W _ _ _ (by kernel_rfl)
  have HB := Lib.hid h
  clear h
  unfold pdA
  go_enter Try.func13, Try.ntmps13
  go_wp2_with (at_builtin; (
               refine wpl_append_bytes rfl (.tmp 22) (.tmp 24) 33 rfl Try.underlying33 li5 (w.heap.size + 3) (.slice none 0 0) (.slice A n cap) [] p.data p.data rfl rfl rfl (Fresh.nil _ _) (HB.out.same ((((Upd.refl (fun _ => False) w).alloc _).alloc _).alloc _)) (by simp <;> omega) (by simp; omega) ?_
               intro v2 w2 hf2 hu2 hr2
               obtain ⟨A2, cp2, rfl⟩ := Fresh.shape' hf2
               have hs2 : Same _ w2 := hu2.mono fun i _ hi => by simp [room] at hi
               have hbx := (BoxAt.newAt ((w.alloc (.cells (pdC p (.slice A n cap)).toArray 42)).alloc (.cells (pdC noP (.slice none 0 0)).toArray 40)) p (.slice none 0 0) 40 (w.heap.size + 1 + 1) (by simp)).same hs2
               have hby := ((BoxAt.newAt (w.alloc (.cells (pdC p (.slice A n cap)).toArray 42)) noP (.slice none 0 0) 40 (w.heap.size + 1) (by simp)).same ((Upd.refl _ _).alloc (.cells (pdC p (.slice none 0 0)).toArray 40))).same hs2
               have hfx := (FzAt.newAt ((w.alloc (.cells (pdC p (.slice A n cap)).toArray 42)).alloc (.cells (pdC noP (.slice none 0 0)).toArray 40)) (pdC p (.slice none 0 0)).toArray 40 (w.heap.size + 1 + 1) (by simp)).upd hs2 (by simp) id
               have hfy := (((FzAt.newAt (w.alloc (.cells (pdC p (.slice A n cap)).toArray 42)) (pdC noP (.slice none 0 0)).toArray 40 (w.heap.size + 1) (by simp))).upd ((Upd.refl (fun _ => False) _).alloc (.cells (pdC p (.slice none 0 0)).toArray 40)) (by simp) id).upd hs2 (by simp) id
               unfold FzAt at hfx hfy
               have c0 := hbx 0 _ rfl
               have c1 := hbx 1 _ rfl
               have c2 := hbx 2 _ rfl
               have c3 := hbx 3 _ rfl
               have c4 := hbx 4 _ rfl
               have c5 := hbx 5 _ rfl
               have c6 := hbx 6 _ rfl
               have c7 := hbx 7 _ rfl
               have c8 := hbx 8 _ rfl
               have c9 := hbx 9 _ rfl
               have c10 := hbx 10 _ rfl
               have c11 := hbx 11 _ rfl
               have c12 := hbx 12 _ rfl
               have c13 := hbx 13 _ rfl
               have c14 := hbx 14 _ rfl
               have z0 := hby 0 _ rfl
               have z1 := hby 1 _ rfl
               have z2 := hby 2 _ rfl
               have z3 := hby 3 _ rfl
               have z4 := hby 4 _ rfl
               have z5 := hby 5 _ rfl
               have z6 := hby 6 _ rfl
               have z7 := hby 7 _ rfl
               have z8 := hby 8 _ rfl
               have z9 := hby 9 _ rfl
               have z10 := hby 10 _ rfl
               have z11 := hby 11 _ rfl
               have z12 := hby 12 _ rfl
               have z13 := hby 13 _ rfl
               have z14 := hby 14 _ rfl
               have HS2 := Lib.hid (Same.trans ((((Upd.refl (fun _ => False) w).alloc _).alloc _).alloc _) hs2)
               have HF2 := Lib.hid hf2
               have HBY := Lib.hid hby
               clear hbx hby hf2 hu2 hr2 hs2))
  refine given_ret (b := w.heap.size + 1) p A2 p.data.length cp2 ?_ ?_ (BoxTo.full ?_) ?_
  · rfl
  · rfl
  · iterate 15 refine BoxTo.step ?_ (by decide) rfl
    exact BoxTo.skip (BoxTo.zero p noP (.slice A2 p.data.length cp2) (.slice none 0 0) HBY.out) (by omega)
  refine given_end p HS2.out HF2.out ?_
  repeat refine Upd.setCell ?_ (by simp) _
  exact Upd.refl _ _
end Go.Proofs.Ytfafepmghcobdaa
