/- Letters (chapter 17): the program's parse. -/
import Derived.Test.YtfafepmghcobdaaPduT
import Derived.Test.YtfafepmghcobdaaGa
import Derived.Deep.DrawnRows
namespace Go.Proofs.Ytfafepmghcobdaa
open Go.RowKit
set_option linter.unusedVariables false
set_option linter.unusedSimpArgs false
set_option maxRecDepth 20000
set_option maxHeartbeats 4000000
attribute [local go_sem ↓] Go.wp_at_zero Go.wp_at_succ
/-- Cells of a block, none of them shared with a text. -/
def BoxC (w : World) (b : Nat) (cs : List Value) : Prop := (∀ j u, cs[j]? = some u → w.cell? ⟨b, j, none⟩ = some u) ∧ FzAt w b
theorem BoxC.newAt (w : World) (cs : List Value) (t : TypeId) (b : Nat) (hb : b = w.heap.size) : BoxC (w.alloc (.cells cs.toArray t)) b cs := by
  refine ⟨fun j u hj => ?_, FzAt.newAt w _ t b hb⟩
  subst hb
  rw [cell_of_row _ _ j _ _ (0, 0) (heap_alloc_new w _)]
  simpa using hj
theorem BoxC.upd {S : Nat → Prop} {w w' : World} {b : Nat} {cs : List Value} (h : BoxC w b cs) (hc : 0 < cs.length) (hu : Upd S w w') (hn : ¬ S b) : BoxC w' b cs :=
  ⟨fun j u hj => hu.cell (h.1 j u hj) hn, h.2.upd hu (World.block_lt_of_cell? w _ (h.1 0 _ (List.getElem?_eq_getElem hc))) hn⟩
theorem BoxC.lt {w : World} {b : Nat} {cs : List Value} (h : BoxC w b cs) (hc : 0 < cs.length) : b < w.heap.size := World.block_lt_of_cell? w _ (h.1 0 _ (List.getElem?_eq_getElem hc))
theorem BoxC.set {w : World} {b : Nat} {cs : List Value} (h : BoxC w b cs) (j : Nat) (u : Value) (hj : j < cs.length) : BoxC (w.setCell ⟨b, j, none⟩ u) b (cs.set j u) := by
  refine ⟨fun i x hi => ?_, fun i => by rw [World.frozen?_setCell]; exact h.2 i⟩
  by_cases e : i = j
  · subst e
    rw [List.getElem?_set_self hj] at hi
    injection hi with hi
    subst hi
    exact World.cell?_setCell_same _ _ _ (h.1 i _ (List.getElem?_eq_getElem hj))
  · rw [List.getElem?_set_ne (fun h => e h.symm)] at hi
    rw [World.cell?_setCell_other _ _ _ _ (by intro h; injection h with _ h; omega)]
    exact h.1 i x hi
theorem BoxC.skip {w : World} {b b' j : Nat} {cs : List Value} {u : Value} (h : BoxC w b cs) (hb : b ≠ b') : BoxC (w.setCell ⟨b', j, none⟩ u) b cs :=
  ⟨fun i x hi => by rw [World.cell?_setCell_other _ _ _ _ (by intro h; injection h with h _; omega)]; exact h.1 i x hi, fun i => by rw [World.frozen?_setCell]; exact h.2 i⟩
/-- A field's reader at block P that stands behind a bytes; its pointer lies in block F. -/
def FS (w wr : World) (P F : Nat) (bs : List UInt8) (a : Nat) : Prop :=
  (∃ v, WObj (w.heap.size + 1) wr P v (bs.drop a) 0 ∧ ∀ k, foot P v k → k < F) ∧ Same w wr ∧ wr.cell? ⟨F, 0, none⟩ = some (.pointer (some ⟨P, 0, none⟩)) ∧ BoxC wr w.heap.size (pdC noP (.slice none 0 0)) ∧ w.heap.size + 1 ≤ P ∧ P < F
theorem FS.same {w wr w' : World} {P F : Nat} {bs : List UInt8} {a : Nat} (h : FS w wr P F bs a) (hs : Same wr w') : FS w w' P F bs a := by
  obtain ⟨⟨v, ho, hft⟩, hs0, hc, hb, hp1, hp2⟩ := h
  exact ⟨⟨v, ho.upd hs (fun _ _ h => h), hft⟩, Same.trans hs0 hs, hs.cell hc id, hb.upd (by decide) hs id, hp1, hp2⟩
theorem FS.setX {w wr : World} {P F X j : Nat} {u : Value} {bs : List UInt8} {a : Nat} (h : FS w wr P F bs a) (hX : F < X) : FS w (wr.setCell ⟨X, j, none⟩ u) P F bs a := by
  obtain ⟨⟨v, ho, hft⟩, hs0, hc, hb, hp1, hp2⟩ := h
  have hu : Upd (fun k => k = X) wr (wr.setCell ⟨X, j, none⟩ u) := (Upd.refl (fun k => k = X) wr).setCell (p := ⟨X, j, none⟩) (fun _ => rfl) _
  exact ⟨⟨v, ho.upd hu (fun k hk e => by have := hft k hk; omega), hft⟩, Same.into hs0 hu (fun k hk => by omega), hu.cell hc (fun e => by dsimp only at e; omega), hb.skip (by omega), hp1, hp2⟩
theorem FS.num {w wr : World} {P F : Nat} {bs : List UInt8} {a : Nat} (h : FS w wr P F bs a) (s : Nat) (h1 : 1 ≤ s) (h8 : s ≤ 8) (hl : a + s ≤ bs.length) (hm : bs.length ≤ 100000) :
    Calls Try.prog 60 #[.pointer (some ⟨P, 0, none⟩), .int .i64 (s : Int)] wr fun r w' => r = .returned (.int .i64 (wrap64 (pn bs a s))) ∧ FS w w' P F bs (a + s) ∧ Upd (fun k => k = P) wr w' := by
  obtain ⟨⟨v, ho, hft⟩, hs, hc, hb, hp1, hp2⟩ := h
  refine (rnum_any P v (bs.drop a) 0 (s : Int) wr ho (by rw [List.length_drop]; omega) (by omega) (by omega)).mono ?_
  rintro r w' ⟨rfl, v', ho', hu, hroom⟩
  have hE : rnE 0 (s : Int) (bs.drop a).length = 0 := by
    unfold rnE
    rw [if_neg (by decide), if_neg (by omega), if_neg (by rw [List.length_drop]; omega)]
  rw [hE] at ho'
  have hL : rnL (bs.drop a) 0 (s : Int) = bs.drop (a + s) := by unfold rnL; rw [hE, if_pos rfl, Int.toNat_natCast, List.drop_drop]
  rw [hL] at ho'
  refine ⟨?_, ⟨⟨v', ho', fun k hk => ?_⟩, Same.into hs hu (fun k hk => by omega), hu.cell hc (fun e => by dsimp only at e; omega), hb.upd (by decide) hu (fun e => by omega), hp1, hp2⟩, hu⟩
  · unfold rnN pn
    rw [hE, if_pos rfl, Int.toNat_natCast]
  · rcases hk with hk | hk
    · omega
    · exact hft k (.inr (hroom k hk))
theorem wrap64_small {n : Int} (h : 0 ≤ n ∧ n < 9223372036854775808) : wrap64 n = n := by unfold wrap64; omega
theorem pn_small (bs : List UInt8) (a s : Nat) (hs : s ≤ 4) : 0 ≤ pn bs a s ∧ pn bs a s ≤ 4294967295 := by
  have h := pn_range bs a s
  have hp : (256 : Int) ^ s ≤ 4294967296 := by
    rcases (show s = 0 ∨ s = 1 ∨ s = 2 ∨ s = 3 ∨ s = 4 by omega) with rfl | rfl | rfl | rfl | rfl <;> decide
  omega
/-- A number of four bytes at most. -/
theorem FS.num4 {w wr : World} {P F : Nat} {bs : List UInt8} {a : Nat} (h : FS w wr P F bs a) (s : Nat) (h1 : 1 ≤ s) (h4 : s ≤ 4) (hl : a + s ≤ bs.length) (hm : bs.length ≤ 100000) :
    Calls Try.prog 60 #[.pointer (some ⟨P, 0, none⟩), .int .i64 (s : Int)] wr fun r w' => r = .returned (.int .i64 (pn bs a s)) ∧ FS w w' P F bs (a + s) ∧ Upd (fun k => k = P) wr w' := by
  have := h.num s h1 (by omega) hl hm
  rwa [wrap64_small (by have := pn_small bs a s h4; omega)] at this
/-- A letter's cells while its words are read. -/
def boxW (hd : List Value) (bs : List UInt8) (i : Nat) : List Value := hd ++ ((List.range 7).map fun k => if k < i then Value.int .u32 (pn bs (20 + 4 * k) 4) else .int .u32 0) ++ [.slice none 0 0]
/-- A result that lies in a box, and two numbers. -/
theorem parse_ret (p : Pd) (A : Option Addr) (n cap : Nat) {x y : Int} {a : Act} {w' : World} {b : Nat} {Q : Ending → World → Prop} (hp : a.tmps[2]? = some (.pointer (some ⟨b, 0, none⟩))) (h3 : a.tmps[3]? = some (.int .i64 x)) (h4 : a.tmps[4]? = some (.int .i64 y)) (hdf : a.defers = []) (hbox : BoxAt w' b p (.slice A n cap)) (hQ : Q (.returned (.tuple #[pdA p (.slice A n cap), .int .i64 x, .int .i64 y])) w') : bodyPost Try.prog Try.f40 Q .ret a w' := by
  have k0 := hbox 0 _ rfl
  have k1 := hbox 1 _ rfl
  have k2 := hbox 2 _ rfl
  have k3 := hbox 3 _ rfl
  have k4 := hbox 4 _ rfl
  have k5 := hbox 5 _ rfl
  have k6 := hbox 6 _ rfl
  have k7 := hbox 7 _ rfl
  have k8 := hbox 8 _ rfl
  have k9 := hbox 9 _ rfl
  have k10 := hbox 10 _ rfl
  have k11 := hbox 11 _ rfl
  have k12 := hbox 12 _ rfl
  have k13 := hbox 13 _ rfl
  have k14 := hbox 14 _ rfl
  refine bodyPost_ret (v := .tuple #[.agg #[.int .i64 p.op, .bool p.now, .int .i64 p.flags, .int .i64 p.b2, .int .i64 p.b3, .int .u64 p.lun, .int .u32 p.task, .int .u32 (wd p 0), .int .u32 (wd p 1), .int .u32 (wd p 2), .int .u32 (wd p 3), .int .u32 (wd p 4), .int .u32 (wd p 5), .int .u32 (wd p 6), .slice A n cap], .int .i64 x, .int .i64 y]) (by simp [results, Try.results40, go_sem, asAddr, Result.andThen, hp, h3, h4, k0, k1, k2, k3, k4, k5, k6, k7, k8, k9, k10, k11, k12, k13, k14]) hdf hQ
theorem and63 (n : Int) (h : 0 ≤ n ∧ n ≤ 255) : bits .and .i64 n 63 = n % 64 := by
  have key : ∀ k : Fin 256, bits .and .i64 ((k.val : Nat) : Int) 63 = ((k.val : Nat) : Int) % 64 := by decide +kernel
  have := key ⟨n.toNat, by omega⟩
  simpa [Int.toNat_of_nonneg h.1] using this
theorem and64 (n : Int) (h : 0 ≤ n ∧ n ≤ 255) : (bits .and .i64 n 64 != 0) = decide (64 ≤ n % 128) := by
  have key : ∀ k : Fin 256, (bits .and .i64 ((k.val : Nat) : Int) 64 != 0) = decide (64 ≤ ((k.val : Nat) : Int) % 128) := by decide +kernel
  have := key ⟨n.toNat, by omega⟩
  simpa [Int.toNat_of_nonneg h.1] using this
theorem pn1 (bs : List UInt8) (a : Nat) : 0 ≤ pn bs a 1 ∧ pn bs a 1 ≤ 255 := by
  have h := pn_range bs a 1
  have e : (256 : Int) ^ 1 = 256 := by decide
  omega
/-- The closure. -/
theorem pnext_any {w wr : World} {P F : Nat} {bs : List UInt8} {a : Nat} (h : FS w wr P F bs a) (hl : a + 1 ≤ bs.length) (hm : bs.length ≤ 100000) :
    Calls Try.prog 59 #[.pointer (some ⟨F, 0, none⟩)] wr fun r w' => r = .returned (.int .i64 (pn bs a 1)) ∧ FS w w' P F bs (a + 1) ∧ Upd (fun k => k = P) wr w' := by
  have hc := h.num4 1 (by decide) (by decide) hl hm
  have HC := Lib.hid hc
  have c0 := h.2.2.1
  clear hc h
  go_enter Try.func59, Try.ntmps59
  go_wp2_with fail
  refine (HC.out).mono ?_
  rintro e w1 ⟨rfl, h1, h2⟩
  have H1 := Lib.hid h1
  have H2 := Lib.hid h2
  clear h1 h2
  go_wp2_with fail
  go_ret
  exact ⟨rfl, H1.out, H2.out⟩
theorem parse_any (A : Option Addr) (n cap : Nat) (bs : List UInt8) (w : World) (h : Bs w (.slice A n cap) bs) (h48 : bs.length = 48) :
    Calls Try.prog 40 #[.slice A n cap] w fun e w' => e = .returned (.tuple #[pdA (parseP bs) (.slice none 0 0), .int .i64 (if parseE bs = 0 then (sizeP bs : Int) else 0), .int .i64 (parseE bs)]) ∧ Same w w' := by
  obtain ⟨XS, hXS⟩ : ∃ x : Int, x = (if parseE bs = 0 then (sizeP bs : Int) else 0) := ⟨_, rfl⟩
  obtain ⟨YE, hYE⟩ : ∃ y : Int, y = parseE bs := ⟨_, rfl⟩
  rw [← hXS, ← hYE]
  have HXS := Lib.hid hXS
  have HYE := Lib.hid hYE
  clear hXS hYE
  have hm : bs.length ≤ 100000 := by omega
  have HB := Lib.hid h
  have HM := Lib.hid hm
  have H48 := Lib.hid h48
  clear h hm h48
  go_enter Try.func40, Try.ntmps40
  go_wp2_with fail
  show Calls Try.prog _ _ (w.alloc (.cells (pdC noP (.slice none 0 0)).toArray 40)) _
  have hbx := BoxC.newAt w (pdC noP (.slice none 0 0)) 40 w.heap.size rfl
  have hs0 : Same w (w.alloc (.cells (pdC noP (.slice none 0 0)).toArray 40)) := (Upd.refl _ w).alloc _
  have hz0 : (w.alloc (.cells (pdC noP (.slice none 0 0)).toArray 40)).heap.size = w.heap.size + 1 := by simp
  generalize w.alloc (.cells (pdC noP (.slice none 0 0)).toArray 40) = w0 at hbx hs0 hz0 ⊢
  refine (newReader_any _ bs w0 (HB.out.same hs0) (by have := HM.out; omega)).mono ?_
  rintro e w1 ⟨P, v', rfl, ho, hs⟩
  have hbx1 := hbx.upd (by decide) hs id
  have hs1 := Same.trans hs0 hs
  have hb2 := BoxC.newAt w1 [.pointer (some ⟨P, 0, none⟩)] 101 w1.heap.size rfl
  have hfs : FS w (w1.alloc (.cells #[.pointer (some ⟨P, 0, none⟩)] 101)) P w1.heap.size bs 0 := by
    rw [hz0] at ho
    exact ⟨⟨v', ho.upd ((Upd.refl (fun _ => False) _).alloc _) (fun _ _ h => h), fun k hk => (ho.foot k hk).2⟩, hs1.alloc _, hb2.1 0 _ rfl, hbx1.upd (by decide) ((Upd.refl (fun _ => False) _).alloc _) id, ho.1, (ho.foot P (.inl rfl)).2⟩
  have HFS := Lib.hid hfs
  have hF : w1.heap.size < (w1.alloc (.cells #[.pointer (some ⟨P, 0, none⟩)] 101)).heap.size := by simp
  clear hbx hs0 hz0 ho hs hbx1 hs1 hb2 hfs
  go_wp2_with fail
  generalize w1.alloc (.cells #[.pointer (some ⟨P, 0, none⟩)] 101) = wa at HFS hF ⊢
  generalize w1.heap.size = F at HFS hF ⊢
  refine (pnext_any HFS.out (by have := H48.out; omega) HM.out).mono ?_
  rintro e w2 ⟨rfl, hf, hu⟩
  have HF1 := Lib.hid hf
  have HFZ1 := Lib.hid (Nat.lt_of_lt_of_le hF hu.size)
  have h0 := pn1 bs 0
  have hE0 := Lib.hid (rfl : pn bs 0 1 = pn bs 0 1)
  obtain ⟨n0, hn0⟩ : ∃ n0, n0 = pn bs 0 1 := ⟨_, rfl⟩
  rw [← hn0] at h0 ⊢
  have HN0 := Lib.hid hn0
  have ha1 := and63 n0 h0
  have ha2 := and64 n0 h0
  clear hn0 hf hu HFS hF hE0
  go_wp2_with fail
  refine (pnext_any HF1.out (by have := H48.out; omega) HM.out).mono ?_
  rintro e w3 ⟨rfl, hf, hu⟩
  have HF2 := Lib.hid hf
  have HFZ2 := Lib.hid (Nat.lt_of_lt_of_le HFZ1.out hu.size)
  have h1 := pn1 bs 1
  obtain ⟨n1, hn1⟩ : ∃ n1, n1 = pn bs 1 1 := ⟨_, rfl⟩
  rw [← hn1] at h1 ⊢
  have HN1 := Lib.hid hn1
  clear hn1 hf hu HF1 HFZ1
  go_wp2_with fail
  refine (pnext_any HF2.out (by have := H48.out; omega) HM.out).mono ?_
  rintro e w4 ⟨rfl, hf, hu⟩
  have HF3 := Lib.hid hf
  have HFZ3 := Lib.hid (Nat.lt_of_lt_of_le HFZ2.out hu.size)
  have h2 := pn1 bs 2
  obtain ⟨n2, hn2⟩ : ∃ n2, n2 = pn bs 2 1 := ⟨_, rfl⟩
  rw [← hn2] at h2 ⊢
  have HN2 := Lib.hid hn2
  clear hn2 hf hu HF2 HFZ2
  go_wp2_with fail
  refine (pnext_any HF3.out (by have := H48.out; omega) HM.out).mono ?_
  rintro e w5 ⟨rfl, hf, hu⟩
  have HF4 := Lib.hid hf
  have HFZ4 := Lib.hid (Nat.lt_of_lt_of_le HFZ3.out hu.size)
  have h3 := pn1 bs 3
  obtain ⟨n3, hn3⟩ : ∃ n3, n3 = pn bs 3 1 := ⟨_, rfl⟩
  rw [← hn3] at h3 ⊢
  have HN3 := Lib.hid hn3
  clear hn3 hf hu HF3 HFZ3
  have hbd : ∀ W, (Instr.build 40 #[(0, .int .i64 (n0 % 64)), (1, .bool (decide (64 ≤ n0 % 128))), (2, .int .i64 n1), (3, .int .i64 n2), (4, .int .i64 n3)]).run Try.prog W = .ok (.agg #[.int .i64 (n0 % 64), .bool (decide (64 ≤ n0 % 128)), .int .i64 n1, .int .i64 n2, .int .i64 n3, .int .u64 0, .int .u32 0, .int .u32 0, .int .u32 0, .int .u32 0, .int .u32 0, .int .u32 0, .int .u32 0, .int .u32 0, .slice none 0 0]) W := fun W => run_build W _ _ _ (by kernel_rfl)
  have hf := HF4.out.2.2.1
  go_wp2_with fail
  have hfx : FS w (w5.alloc (.cells #[.int .i64 (n0 % 64), .bool (decide (64 ≤ n0 % 128)), .int .i64 n1, .int .i64 n2, .int .i64 n3, .int .u64 0, .int .u32 0, .int .u32 0, .int .u32 0, .int .u32 0, .int .u32 0, .int .u32 0, .int .u32 0, .int .u32 0, .slice none 0 0] 40)) P F bs 4 := HF4.out.same ((Upd.refl _ _).alloc _)
  have hxb : BoxC (w5.alloc (.cells #[.int .i64 (n0 % 64), .bool (decide (64 ≤ n0 % 128)), .int .i64 n1, .int .i64 n2, .int .i64 n3, .int .u64 0, .int .u32 0, .int .u32 0, .int .u32 0, .int .u32 0, .int .u32 0, .int .u32 0, .int .u32 0, .int .u32 0, .slice none 0 0] 40)) w5.heap.size [.int .i64 (n0 % 64), .bool (decide (64 ≤ n0 % 128)), .int .i64 n1, .int .i64 n2, .int .i64 n3, .int .u64 0, .int .u32 0, .int .u32 0, .int .u32 0, .int .u32 0, .int .u32 0, .int .u32 0, .int .u32 0, .int .u32 0, .slice none 0 0] := BoxC.newAt w5 [.int .i64 (n0 % 64), .bool (decide (64 ≤ n0 % 128)), .int .i64 n1, .int .i64 n2, .int .i64 n3, .int .u64 0, .int .u32 0, .int .u32 0, .int .u32 0, .int .u32 0, .int .u32 0, .int .u32 0, .int .u32 0, .int .u32 0, .slice none 0 0] _ _ rfl
  have hFX := HFZ4.out
  generalize w5.alloc (.cells #[.int .i64 (n0 % 64), .bool (decide (64 ≤ n0 % 128)), .int .i64 n1, .int .i64 n2, .int .i64 n3, .int .u64 0, .int .u32 0, .int .u32 0, .int .u32 0, .int .u32 0, .int .u32 0, .int .u32 0, .int .u32 0, .int .u32 0, .slice none 0 0] 40) = wx at hfx hxb ⊢
  generalize w5.heap.size = X at hxb hFX ⊢
  have HFX := Lib.hid hfx
  have HXB := Lib.hid hxb
  clear hfx hxb hf HF4 HFZ4 ha1 ha2 hbd
  have z0 := HFX.out.2.2.1
  go_region_held3 (fun w' => w'.cell? ⟨F, 0, none⟩ = some (.pointer (some ⟨P, 0, none⟩))) (first | assumption | exact (Upd.refl (fun _ => False) _).drew.cell z0 (fun h => h)) (first
    | (go_at_call 59; refine (pnext_any (HFX.out.same (Upd.refl _ _).drew) (by have := H48.out; omega) HM.out).mono ?_; rintro e w6 ⟨rfl, hf6, hu6⟩; have HF6 := Lib.hid hf6; have z1 := hf6.2.2.1; clear hf6)
    | (go_at_call 60; refine (HF6.out.num4 3 (by decide) (by decide) (by have := H48.out; omega) HM.out).mono ?_; rintro e w7 ⟨rfl, hf7, hu7⟩; have z2 := hf7.2.2.1; have HF7 := Lib.hid hf7; clear hf7))
  have hxb7 : BoxC w7 X [.int .i64 (n0 % 64), .bool (decide (64 ≤ n0 % 128)), .int .i64 n1, .int .i64 n2, .int .i64 n3, .int .u64 0, .int .u32 0, .int .u32 0, .int .u32 0, .int .u32 0, .int .u32 0, .int .u32 0, .int .u32 0, .int .u32 0, .slice none 0 0] := ((HXB.out.upd (by simp) ((Upd.refl (fun _ => False) _).drew) id).upd (by simp) hu6 (fun e => by have := HFX.out.2.2.2.2; omega)).upd (by simp) hu7 (fun e => by have := HFX.out.2.2.2.2; omega)
  have HX7 := Lib.hid hxb7
  have hXP : ¬ X = P := fun e => by have := HFX.out.2.2.2.2; omega
  have HXP := Lib.hid hXP
  clear hxb7 hu6 hu7 z0 z1 z2 HXB HFX HF6 hXP
  obtain ⟨m4, hm4⟩ : ∃ m4, m4 = pn bs 4 1 := ⟨_, rfl⟩
  obtain ⟨sz, hsz⟩ : ∃ sz, sz = pn bs 5 3 := ⟨_, rfl⟩
  rw [← hm4, ← hsz]
  obtain ⟨nl, hnl⟩ : ∃ nl, nl = pn bs 8 8 := ⟨_, rfl⟩
  obtain ⟨nt, hnt⟩ : ∃ nt, nt = pn bs 16 4 := ⟨_, rfl⟩
  have hm4r := pn1 bs 4
  have hszr := pn_small bs 5 3 (by decide)
  have hntr := pn_small bs 16 4 (by decide)
  have hnlr := pn_range bs 8 8
  have e8 : (256 : Int) ^ 8 = 18446744073709551616 := by decide
  rw [e8, ← hnl] at hnlr
  rw [← hm4] at hm4r
  rw [← hsz] at hszr
  rw [← hnt] at hntr
  have hw8 : IntKind.u64.wrap (wrap64 nl) = nl := by rw [IntKind.wrap_u64]; unfold wrap64; omega
  have hw4 : IntKind.u32.wrap nt = nt := by rw [IntKind.wrap_u32]; omega
  have HM4 := Lib.hid hm4
  have HSZ := Lib.hid hsz
  have HNL := Lib.hid hnl
  have HNT := Lib.hid hnt
  have HMR := Lib.hid hm4r
  have HSR := Lib.hid hszr
  have HNLR := Lib.hid hnlr
  clear hm4 hsz hnl hnt hm4r hszr hnlr e8
  have z0 := HF7.out.2.2.1
  go_wp2_with fail
  have hS0 : w7.drew.cell? ⟨F, 0, none⟩ = some (.pointer (some ⟨P, 0, none⟩)) := (Upd.refl (fun _ => False) _).drew.cell z0 (fun h => h)
  clear z0
  refine wp_region_noPanic ?_
  refine wp_region_need (fun w' => w'.cell? ⟨F, 0, none⟩ = some (.pointer (some ⟨P, 0, none⟩))) (fun _ => true) (by kernel_rfl) (fun hcl => ?_)
  refine wpAnyN_take (i := 0) (v := ?_) rfl (by as_aux_lemma => kernel_rfl) (by as_aux_lemma => kernel_rfl) (by as_aux_lemma => kernel_rfl) (by as_aux_lemma => kernel_rfl) (fun _ _ _ h => h) (by assumption) hS0 (Or.inl ⟨by rfl, ?_⟩) (fun hcl0 => ?_)
  rotate_left
  · (intro wS hSw; (try dsimp only at hSw); go_simp; (try with_reducible rfl))
  clear hcl
  try simp only [Act.put, List.getElem_toArray, List.getElem_cons_succ, List.getElem_cons_zero, List.setIfInBounds_toArray, List.set_cons_zero, List.set_cons_succ]
  refine wpAnyN_take (i := 3) (v := ?_) rfl (by as_aux_lemma => kernel_rfl) (by as_aux_lemma => kernel_rfl) (by as_aux_lemma => kernel_rfl) (by as_aux_lemma => kernel_rfl) (fun _ _ _ h => h) (by assumption) hS0 (Or.inl ⟨by rfl, ?_⟩) (fun hcl3 => ?_)
  rotate_left
  · (intro wS hSw; (try dsimp only at hSw); go_simp; (try with_reducible rfl))
  clear hcl0
  try simp only [Act.put, List.getElem_toArray, List.getElem_cons_succ, List.getElem_cons_zero, List.setIfInBounds_toArray, List.set_cons_zero, List.set_cons_succ]
  refine wpAnyN_oneC (i := 1) (by as_aux_lemma => kernel_rfl) rfl (by assumption) (fun hcl1 K' hK' => ?_)
  clear hcl3
  go_simp
  go_at_call 60
  refine ((HF7.out.same (Upd.refl _ _).drew).num 8 (by decide) (by decide) (by have := H48.out; omega) HM.out).mono ?_
  rintro e w8 ⟨rfl, hf8, hu8⟩
  rw [← HNL.out]
  have HF8 := Lib.hid hf8
  have hS1 := hf8.2.2.1
  clear hf8
  refine hK'.out _ _ (fun _ => hS1) ?_
  clear hK' K'
  try simp only [Act.put, List.getElem_toArray, List.getElem_cons_succ, List.getElem_cons_zero, List.setIfInBounds_toArray, List.set_cons_zero, List.set_cons_succ]
  refine wpAnyN_take (i := 2) (v := ?_) rfl (by as_aux_lemma => kernel_rfl) (by as_aux_lemma => kernel_rfl) (by as_aux_lemma => kernel_rfl) (by as_aux_lemma => kernel_rfl) (fun _ _ _ h => h) (by assumption) hS1 (Or.inl ⟨by rfl, ?_⟩) (fun hcl2 => ?_)
  rotate_left
  · (intro wS hSw; (try dsimp only at hSw); go_simp; (try with_reducible rfl))
  clear hcl1
  try simp only [Act.put, List.getElem_toArray, List.getElem_cons_succ, List.getElem_cons_zero, List.setIfInBounds_toArray, List.set_cons_zero, List.set_cons_succ]
  refine wpAnyN_take (i := 6) (v := ?_) rfl (by as_aux_lemma => kernel_rfl) (by as_aux_lemma => kernel_rfl) (by as_aux_lemma => kernel_rfl) (by as_aux_lemma => kernel_rfl) (fun _ _ _ h => h) (by assumption) hS1 (Or.inl ⟨by rfl, ?_⟩) (fun hcl6 => ?_)
  rotate_left
  · (intro wS hSw; (try dsimp only at hSw); go_simp; (try with_reducible rfl))
  clear hcl2
  try simp only [Act.put, List.getElem_toArray, List.getElem_cons_succ, List.getElem_cons_zero, List.setIfInBounds_toArray, List.set_cons_zero, List.set_cons_succ]
  refine wpAnyN_oneC (i := 4) (by as_aux_lemma => kernel_rfl) rfl (by assumption) (fun hcl4 K' hK' => ?_)
  clear hcl6
  go_simp
  go_at_call 60
  refine (HF8.out.num4 4 (by decide) (by decide) (by have := H48.out; omega) HM.out).mono ?_
  rintro e w9 ⟨rfl, hf9, hu9⟩
  rw [← HNT.out]
  have hS2 := hf9.2.2.1
  have HF9 := Lib.hid hf9
  have hx9 := ((HX7.out.upd (by simp) ((Upd.refl (fun _ => False) _).drew) id).upd (by simp) hu8 HXP.out).upd (by simp) hu9 HXP.out
  have c5 := hx9.1 5 _ rfl
  have c6 := hx9.1 6 _ rfl
  have fz := hx9.2
  unfold FzAt at fz
  have HX9 := Lib.hid hx9
  clear hf9 hx9 HX7
  refine hK'.out _ _ (fun _ => hS2) ?_
  clear hK' K'
  try simp only [Act.put, List.getElem_toArray, List.getElem_cons_succ, List.getElem_cons_zero, List.setIfInBounds_toArray, List.set_cons_zero, List.set_cons_succ]
  refine wpAnyN_take (i := 5) (v := ?_) rfl (by as_aux_lemma => kernel_rfl) (by as_aux_lemma => kernel_rfl) (by as_aux_lemma => kernel_rfl) (by as_aux_lemma => kernel_rfl) (fun _ _ _ h => h) (by assumption) hS2 (Or.inl ⟨by rfl, ?_⟩) (fun hcl5 => ?_)
  rotate_left
  · (intro wS hSw; (try dsimp only at hSw); go_simp; (try with_reducible rfl))
  clear hcl4
  try simp only [Act.put, List.getElem_toArray, List.getElem_cons_succ, List.getElem_cons_zero, List.setIfInBounds_toArray, List.set_cons_zero, List.set_cons_succ]
  refine wpAnyN_oneC (i := 7) (by as_aux_lemma => kernel_rfl) rfl (by assumption) (fun hcl7 K' hK' => ?_)
  clear hcl5
  go_simp
  have hx10 := HX9.out.set 5 (.int .u64 nl) (by simp)
  have hf10 := HF9.out.setX (X := X) (j := 5) (u := .int .u64 nl) hFX
  clear c5 c6 fz
  generalize w9.setCell ⟨X, 5, none⟩ (.int .u64 nl) = w10 at hx10 hf10 ⊢
  have c6 := hx10.1 6 _ rfl
  have fz := hx10.2
  unfold FzAt at fz
  have HX10 := Lib.hid hx10
  have HF10 := Lib.hid hf10
  have hS3 := hf10.2.2.1
  clear hx10 hf10
  refine hK'.out _ _ (fun _ => hS3) ?_
  clear hK' K'
  try simp only [Act.put, List.getElem_toArray, List.getElem_cons_succ, List.getElem_cons_zero, List.setIfInBounds_toArray, List.set_cons_zero, List.set_cons_succ]
  refine wpAnyN_take (i := 8) (v := ?_) rfl (by as_aux_lemma => kernel_rfl) (by as_aux_lemma => kernel_rfl) (by as_aux_lemma => kernel_rfl) (by as_aux_lemma => kernel_rfl) (fun _ _ _ h => h) (by assumption) hS3 (Or.inl ⟨by rfl, ?_⟩) (fun hcl8 => ?_)
  rotate_left
  · (intro wS hSw; (try dsimp only at hSw); go_simp; (try with_reducible rfl))
  clear hcl7
  try simp only [Act.put, List.getElem_toArray, List.getElem_cons_succ, List.getElem_cons_zero, List.setIfInBounds_toArray, List.set_cons_zero, List.set_cons_succ]
  refine wpAnyN_oneC (i := 9) (by as_aux_lemma => kernel_rfl) rfl (by assumption) (fun hcl9 K' hK' => ?_)
  clear hcl8
  go_simp
  have hx11 := HX10.out.set 6 (.int .u32 nt) (by simp)
  have hf11 := HF10.out.setX (X := X) (j := 6) (u := .int .u32 nt) hFX
  clear c6 fz
  generalize w10.setCell ⟨X, 6, none⟩ (.int .u32 nt) = w11 at hx11 hf11 ⊢
  have hS4 := hf11.2.2.1
  refine hK'.out _ _ (fun _ => hS4) ?_
  clear hK' K'
  try simp only [Act.put, List.getElem_toArray, List.getElem_cons_succ, List.getElem_cons_zero, List.setIfInBounds_toArray, List.set_cons_zero, List.set_cons_succ]
  refine wpAnyN_done (by as_aux_lemma => kernel_rfl) ?_ _
  refine NoPanic.normal ?_
  have hbw : BoxC w11 X (boxW [.int .i64 (n0 % 64), .bool (decide (64 ≤ n0 % 128)), .int .i64 n1, .int .i64 n2, .int .i64 n3, .int .u64 nl, .int .u32 nt] bs 0) := hx11
  have HIN := Lib.hid (And.intro hf11 hbw)
  clear hS0 hS1 hS2 hS3 hS4 hbw hx11 hf11 HX10 HF10 HX9 HF9 HF8 HF7 hw8 hw4 hntr hcl9
  try clear hu8 hu9
  try clear hNoPanic
  go_wp2_with fail
  go_loopw [41] (fun v41 wr => ∃ i : Nat, i ≤ 7 ∧ v41 = .int .i64 i ∧ Hid (FS w wr P F bs (20 + 4 * i) ∧ BoxC wr X (boxW [.int .i64 (n0 % 64), .bool (decide (64 ≤ n0 % 128)), .int .i64 n1, .int .i64 n2, .int .i64 n3, .int .u64 nl, .int .u32 nt] bs i))) (fun v41 _ => 7 - (intOf v41).toNat)
  case atStart => exact ⟨0, by omega, rfl, HIN.out⟩
  case round =>
    obtain ⟨i, hi, rfl, hin⟩ := hrel
    rcases (show i = 0 ∨ i = 1 ∨ i = 2 ∨ i = 3 ∨ i = 4 ∨ i = 5 ∨ i = 6 ∨ i = 7 by omega) with rfl | rfl | rfl | rfl | rfl | rfl | rfl | rfl
    · have z0 := hin.out.1.2.2.1
      go_wp2_with fail
      refine (hin.out.1.num4 4 (by decide) (by decide) (by have := H48.out; omega) HM.out).mono ?_
      rintro e wn ⟨rfl, hf, hu⟩
      have hx := hin.out.2.upd (by simp [boxW]) hu HXP.out
      have htr := pn_small bs (20 + 4 * 0) 4 (by decide)
      obtain ⟨t, ht⟩ : ∃ t, t = pn bs (20 + 4 * 0) 4 := ⟨_, rfl⟩
      rw [← ht] at htr ⊢
      have cw := hx.1 7 _ rfl
      have fz := hx.2
      unfold FzAt at fz
      have HX := Lib.hid hx
      have HF := Lib.hid hf
      have HT := Lib.hid ht
      clear z0 hx hf ht hu
      go_wp2_with fail
      refine ⟨⟨1, by omega, rfl, Lib.hid ⟨HF.out.setX hFX, ?_⟩⟩, by simp [intOf]⟩
      have hx2 := HX.out.set 7 (.int .u32 t) (by simp [boxW])
      rw [HT.out] at hx2 ⊢
      exact hx2
    · have z0 := hin.out.1.2.2.1
      go_wp2_with fail
      refine (hin.out.1.num4 4 (by decide) (by decide) (by have := H48.out; omega) HM.out).mono ?_
      rintro e wn ⟨rfl, hf, hu⟩
      have hx := hin.out.2.upd (by simp [boxW]) hu HXP.out
      have htr := pn_small bs (20 + 4 * 1) 4 (by decide)
      obtain ⟨t, ht⟩ : ∃ t, t = pn bs (20 + 4 * 1) 4 := ⟨_, rfl⟩
      rw [← ht] at htr ⊢
      have cw := hx.1 8 _ rfl
      have fz := hx.2
      unfold FzAt at fz
      have HX := Lib.hid hx
      have HF := Lib.hid hf
      have HT := Lib.hid ht
      clear z0 hx hf ht hu
      go_wp2_with fail
      refine ⟨⟨2, by omega, rfl, Lib.hid ⟨HF.out.setX hFX, ?_⟩⟩, by simp [intOf]⟩
      have hx2 := HX.out.set 8 (.int .u32 t) (by simp [boxW])
      rw [HT.out] at hx2 ⊢
      exact hx2
    · have z0 := hin.out.1.2.2.1
      go_wp2_with fail
      refine (hin.out.1.num4 4 (by decide) (by decide) (by have := H48.out; omega) HM.out).mono ?_
      rintro e wn ⟨rfl, hf, hu⟩
      have hx := hin.out.2.upd (by simp [boxW]) hu HXP.out
      have htr := pn_small bs (20 + 4 * 2) 4 (by decide)
      obtain ⟨t, ht⟩ : ∃ t, t = pn bs (20 + 4 * 2) 4 := ⟨_, rfl⟩
      rw [← ht] at htr ⊢
      have cw := hx.1 9 _ rfl
      have fz := hx.2
      unfold FzAt at fz
      have HX := Lib.hid hx
      have HF := Lib.hid hf
      have HT := Lib.hid ht
      clear z0 hx hf ht hu
      go_wp2_with fail
      refine ⟨⟨3, by omega, rfl, Lib.hid ⟨HF.out.setX hFX, ?_⟩⟩, by simp [intOf]⟩
      have hx2 := HX.out.set 9 (.int .u32 t) (by simp [boxW])
      rw [HT.out] at hx2 ⊢
      exact hx2
    · have z0 := hin.out.1.2.2.1
      go_wp2_with fail
      refine (hin.out.1.num4 4 (by decide) (by decide) (by have := H48.out; omega) HM.out).mono ?_
      rintro e wn ⟨rfl, hf, hu⟩
      have hx := hin.out.2.upd (by simp [boxW]) hu HXP.out
      have htr := pn_small bs (20 + 4 * 3) 4 (by decide)
      obtain ⟨t, ht⟩ : ∃ t, t = pn bs (20 + 4 * 3) 4 := ⟨_, rfl⟩
      rw [← ht] at htr ⊢
      have cw := hx.1 10 _ rfl
      have fz := hx.2
      unfold FzAt at fz
      have HX := Lib.hid hx
      have HF := Lib.hid hf
      have HT := Lib.hid ht
      clear z0 hx hf ht hu
      go_wp2_with fail
      refine ⟨⟨4, by omega, rfl, Lib.hid ⟨HF.out.setX hFX, ?_⟩⟩, by simp [intOf]⟩
      have hx2 := HX.out.set 10 (.int .u32 t) (by simp [boxW])
      rw [HT.out] at hx2 ⊢
      exact hx2
    · have z0 := hin.out.1.2.2.1
      go_wp2_with fail
      refine (hin.out.1.num4 4 (by decide) (by decide) (by have := H48.out; omega) HM.out).mono ?_
      rintro e wn ⟨rfl, hf, hu⟩
      have hx := hin.out.2.upd (by simp [boxW]) hu HXP.out
      have htr := pn_small bs (20 + 4 * 4) 4 (by decide)
      obtain ⟨t, ht⟩ : ∃ t, t = pn bs (20 + 4 * 4) 4 := ⟨_, rfl⟩
      rw [← ht] at htr ⊢
      have cw := hx.1 11 _ rfl
      have fz := hx.2
      unfold FzAt at fz
      have HX := Lib.hid hx
      have HF := Lib.hid hf
      have HT := Lib.hid ht
      clear z0 hx hf ht hu
      go_wp2_with fail
      refine ⟨⟨5, by omega, rfl, Lib.hid ⟨HF.out.setX hFX, ?_⟩⟩, by simp [intOf]⟩
      have hx2 := HX.out.set 11 (.int .u32 t) (by simp [boxW])
      rw [HT.out] at hx2 ⊢
      exact hx2
    · have z0 := hin.out.1.2.2.1
      go_wp2_with fail
      refine (hin.out.1.num4 4 (by decide) (by decide) (by have := H48.out; omega) HM.out).mono ?_
      rintro e wn ⟨rfl, hf, hu⟩
      have hx := hin.out.2.upd (by simp [boxW]) hu HXP.out
      have htr := pn_small bs (20 + 4 * 5) 4 (by decide)
      obtain ⟨t, ht⟩ : ∃ t, t = pn bs (20 + 4 * 5) 4 := ⟨_, rfl⟩
      rw [← ht] at htr ⊢
      have cw := hx.1 12 _ rfl
      have fz := hx.2
      unfold FzAt at fz
      have HX := Lib.hid hx
      have HF := Lib.hid hf
      have HT := Lib.hid ht
      clear z0 hx hf ht hu
      go_wp2_with fail
      refine ⟨⟨6, by omega, rfl, Lib.hid ⟨HF.out.setX hFX, ?_⟩⟩, by simp [intOf]⟩
      have hx2 := HX.out.set 12 (.int .u32 t) (by simp [boxW])
      rw [HT.out] at hx2 ⊢
      exact hx2
    · have z0 := hin.out.1.2.2.1
      go_wp2_with fail
      refine (hin.out.1.num4 4 (by decide) (by decide) (by have := H48.out; omega) HM.out).mono ?_
      rintro e wn ⟨rfl, hf, hu⟩
      have hx := hin.out.2.upd (by simp [boxW]) hu HXP.out
      have htr := pn_small bs (20 + 4 * 6) 4 (by decide)
      obtain ⟨t, ht⟩ : ∃ t, t = pn bs (20 + 4 * 6) 4 := ⟨_, rfl⟩
      rw [← ht] at htr ⊢
      have cw := hx.1 13 _ rfl
      have fz := hx.2
      unfold FzAt at fz
      have HX := Lib.hid hx
      have HF := Lib.hid hf
      have HT := Lib.hid ht
      clear z0 hx hf ht hu
      go_wp2_with fail
      refine ⟨⟨7, by omega, rfl, Lib.hid ⟨HF.out.setX hFX, ?_⟩⟩, by simp [intOf]⟩
      have hx2 := HX.out.set 13 (.int .u32 t) (by simp [boxW])
      rw [HT.out] at hx2 ⊢
      exact hx2
    · have HXE := Lib.hid hin.out.2
      have HRE := Lib.hid hin.out.1.2.2.2.1
      have HSE := Lib.hid hin.out.1.2.1
      have fz := HRE.out.2
      unfold FzAt at fz
      have c0 := HXE.out.1 0 _ rfl
      have c1 := HXE.out.1 1 _ rfl
      have c2 := HXE.out.1 2 _ rfl
      have c3 := HXE.out.1 3 _ rfl
      have c4 := HXE.out.1 4 _ rfl
      have c5 := HXE.out.1 5 _ rfl
      have c6 := HXE.out.1 6 _ rfl
      have c7 := HXE.out.1 7 _ rfl
      have c8 := HXE.out.1 8 _ rfl
      have c9 := HXE.out.1 9 _ rfl
      have c10 := HXE.out.1 10 _ rfl
      have c11 := HXE.out.1 11 _ rfl
      have c12 := HXE.out.1 12 _ rfl
      have c13 := HXE.out.1 13 _ rfl
      have c14 := HXE.out.1 14 _ rfl
      have z0 := HRE.out.1 0 _ rfl
      have z1 := HRE.out.1 1 _ rfl
      have z2 := HRE.out.1 2 _ rfl
      have z3 := HRE.out.1 3 _ rfl
      have z4 := HRE.out.1 4 _ rfl
      have z5 := HRE.out.1 5 _ rfl
      have z6 := HRE.out.1 6 _ rfl
      have z7 := HRE.out.1 7 _ rfl
      have z8 := HRE.out.1 8 _ rfl
      have z9 := HRE.out.1 9 _ rfl
      have z10 := HRE.out.1 10 _ rfl
      have z11 := HRE.out.1 11 _ rfl
      have z12 := HRE.out.1 12 _ rfl
      have z13 := HRE.out.1 13 _ rfl
      have z14 := HRE.out.1 14 _ rfl
      clear hin HIN
      by_cases hm0 : m4 = 0
      · by_cases h127 : n0 ≤ 127
        · have hE : parseE bs = 0 := by unfold parseE; rw [← HM4.out, ← HN0.out, if_neg (by omega)]
          have HE := Lib.hid hE
          have hS : sz = (sizeP bs : Int) := by unfold sizeP; rw [← HSZ.out]; have := HSR.out; omega
          have HSS := Lib.hid hS
          clear hE hS
          go_wp2_with fail
          obtain ⟨rfl, rfl, rfl, rfl, rfl, rfl⟩ := And.intro HN0.out (And.intro HN1.out (And.intro HN2.out (And.intro HN3.out (And.intro HNL.out HNT.out))))
          refine parse_ret (b := w.heap.size) (parseP bs) none 0 0 (x := sz) (y := 0) ?_ ?_ ?_ ?_ (BoxTo.full ?_) ?_
          · rfl
          · rfl
          · rfl
          · rfl
          · iterate 15 refine BoxTo.step ?_ (by decide) rfl
            exact BoxTo.zero (parseP bs) noP (.slice none 0 0) (.slice none 0 0) HRE.out.1
          · refine ⟨by rw [HYE.out, HXS.out, HE.out, if_pos rfl, HSS.out], Same.into (S := fun k => k = w.heap.size) HSE.out ?_ (fun k hk => by omega)⟩
            repeat refine Upd.setCell ?_ (by simp) _
            exact Upd.refl _ _
        · have hE : parseE bs = 11 := by unfold parseE; rw [← HM4.out, ← HN0.out, if_pos (by omega)]
          have HE := Lib.hid hE
          have h127 : 127 < n0 := by omega
          clear hE
          go_wp2_with fail
          obtain ⟨rfl, rfl, rfl, rfl, rfl, rfl⟩ := And.intro HN0.out (And.intro HN1.out (And.intro HN2.out (And.intro HN3.out (And.intro HNL.out HNT.out))))
          refine parse_ret (b := w.heap.size) (parseP bs) none 0 0 (x := 0) (y := 11) ?_ ?_ ?_ ?_ (BoxTo.full ?_) ?_
          · rfl
          · rfl
          · rfl
          · rfl
          · iterate 15 refine BoxTo.step ?_ (by decide) rfl
            exact BoxTo.zero (parseP bs) noP (.slice none 0 0) (.slice none 0 0) HRE.out.1
          · refine ⟨by rw [HYE.out, HXS.out, HE.out]; rfl, Same.into (S := fun k => k = w.heap.size) HSE.out ?_ (fun k hk => by omega)⟩
            repeat refine Upd.setCell ?_ (by simp) _
            exact Upd.refl _ _
      · have hE : parseE bs = 11 := by unfold parseE; rw [← HM4.out, ← HN0.out, if_pos (.inl hm0)]
        have HE := Lib.hid hE
        have hm1 : (m4 != 0) = true := by simpa using hm0
        clear hE hm0
        go_wp2_with fail
        obtain ⟨rfl, rfl, rfl, rfl, rfl, rfl⟩ := And.intro HN0.out (And.intro HN1.out (And.intro HN2.out (And.intro HN3.out (And.intro HNL.out HNT.out))))
        refine parse_ret (b := w.heap.size) (parseP bs) none 0 0 (x := 0) (y := 11) ?_ ?_ ?_ ?_ (BoxTo.full ?_) ?_
        · rfl
        · rfl
        · rfl
        · rfl
        · iterate 15 refine BoxTo.step ?_ (by decide) rfl
          exact BoxTo.zero (parseP bs) noP (.slice none 0 0) (.slice none 0 0) HRE.out.1
        · refine ⟨by rw [HYE.out, HXS.out, HE.out]; rfl, Same.into (S := fun k => k = w.heap.size) HSE.out ?_ (fun k hk => by omega)⟩
          repeat refine Upd.setCell ?_ (by simp) _
          exact Upd.refl _ _
end Go.Proofs.Ytfafepmghcobdaa
