/- What the reference's Lent, Kept and Spoil do. -/
import Derived.Test.YtmaofhiapkfoaaaDoorRowsB
import Derived.Lib.Hide
namespace Go.Proofs.YtmaofhiapkfoaaaDoor
open Go.RowKit
set_option linter.unusedVariables false
set_option linter.unusedSimpArgs false

theorem li5 : (Tryd.prog.info? 5).map (fun i => (i.zero, i.size, i.bytes)) = some (some (.int .u8 0), 1, 1) := by kernel_rfl
/-- Bytes of the call's own with the mark behind them. -/
def Lentd (base : Nat) (w : World) (v : Value) (bs : List UInt8) : Prop :=
  ∃ b off cap, v = .slice (some ⟨b, off, none⟩) bs.length cap ∧ Fresh base w (.slice (some ⟨b, off, none⟩) (bs.length + 1) cap) (bs ++ [167])
theorem Lentd.cap {base : Nat} {w : World} {A : Option Addr} {n cap : Nat} {xs : List UInt8} (h : Fresh base w (.slice A n cap) xs) : n ≤ cap ∧ cap ≤ 9223372036854775807 ∧ xs.length = n := by
  obtain ⟨A', n', cap', e, h1, h2, h3, h4⟩ := h
  injection e with e1 e2 e3
  subst e2 e3
  exact ⟨h2, h3, by simpa using h1⟩
theorem Lentd.fresh {base : Nat} {w : World} {v : Value} {bs : List UInt8} (h : Lentd base w v bs) : Fresh base w v bs := by
  obtain ⟨b, off, cap, rfl, hf⟩ := h
  obtain ⟨A', n', cap', e, h1, h2, h3, h4⟩ := hf
  injection e with e1 e2 e3
  subst e2 e3
  refine ⟨_, _, _, rfl, by simp, by omega, h3, ?_⟩
  rcases h4 with h4 | ⟨b', off', e1', hb, hc, hr⟩
  · omega
  · rw [← e1] at e1'
    injection e1' with e1'
    injection e1' with e1' e4
    subst e1' e4
    refine .inr ⟨_, _, rfl, hb, fun j u hj => hc j u ?_, hr⟩
    rw [List.map_append, List.getElem?_append_left (by have := (List.getElem?_eq_some_iff.1 hj).1; exact this)]
    exact hj
theorem Lentd.bs {base : Nat} {w : World} {v : Value} {bs : List UInt8} (h : Lentd base w v bs) : Bs w v bs := h.fresh.bs
theorem Lentd.upd {base : Nat} {S : Nat → Prop} {w w' : World} {v : Value} {bs : List UInt8} (h : Lentd base w v bs) (hu : Upd S w w') (ho : Off S v) : Lentd base w' v bs := by
  obtain ⟨b, off, cap, rfl, hf⟩ := h
  refine ⟨b, off, cap, rfl, hf.upd hu ?_⟩
  intro k hk
  exact ho k hk
theorem Lentd.same {base : Nat} {w w' : World} {v : Value} {bs : List UInt8} (h : Lentd base w v bs) (hu : Same w w') : Lentd base w' v bs := h.upd hu (Off.false v)
theorem Lentd.room {base : Nat} {w : World} {v : Value} {bs : List UInt8} (h : Lentd base w v bs) : ∀ k, room v = some k → base ≤ k ∧ k < w.heap.size := h.fresh.ge
theorem Fresh.open_ {base : Nat} {w : World} {v : Value} {xs : List UInt8} {y : UInt8} (h : Fresh base w v (xs ++ [y])) : ∃ b off cap, v = .slice (some ⟨b, off, none⟩) (xs.length + 1) cap := by
  obtain ⟨A, n', cap', rfl, h1, h2, h3, h4⟩ := h
  have hn : xs.length + 1 = n' := by simpa using h1
  rcases h4 with h4 | ⟨b', off', e1', hb, hc, hr⟩
  · omega
  · exact ⟨b', off', cap', by rw [e1', hn]⟩
/-- Lent. -/
theorem lent_bs (v : Value) (bs : List UInt8) (w : World) (h : Bs w v bs) (hl : bs.length ≤ 140737488351232) :
    Calls Tryd.prog 18 #[v] w fun e w' => ∃ v', e = .returned v' ∧ Lentd w.heap.size w' v' bs ∧ Same w w' := by
  obtain ⟨A, cap, rfl, k1, k2, k3⟩ := id h
  have H := Lib.hid h
  clear h k3
  go_enter Tryd.func18, Tryd.ntmps18
  go_wp2_with
    (first
    | (at_builtin; refine wpl_append_bytes rfl (.tmp 4) (.tmp 5) 25 rfl Tryd.underlying25 li5 w.heap.size (.slice none 0 0) (.slice A bs.length cap) [] bs bs rfl rfl rfl (Fresh.nil _ _) H.out (Nat.le_refl _) (by simp; omega) ?_; intro v2 w2 hf2 hu2 hr2)
    | (at_builtin; refine wpl_append_bytes rfl (.tmp 7) (.tmp 8) 25 rfl Tryd.underlying25 li5 w.heap.size v2 _ bs [167] (bs ++ [167]) rfl rfl rfl (hf2.same ((Upd.refl _ w2).alloc _)) (Bs.one w2 167 _ _ rfl (by decide) (by decide)) (by have := hu2.size; simp; omega) (by simp; omega) ?_; intro v3 w3 hf3 hu3 hr3; obtain ⟨b, off, cp, rfl⟩ := Fresh.open_ hf3; have hcp := (Lentd.cap hf3).1; have hcp2 := (Lentd.cap hf3).2.1))
  have hs2 : Same w w2 := hu2.mono fun i _ hi => by simp [room] at hi
  have hs3 := Same.row (Same.trans hs2 ((Upd.refl _ w2).alloc _)) (hf2.same ((Upd.refl _ w2).alloc _)) hu3
  exact bodyPost_ret (v := .slice (some ⟨b, off, none⟩) bs.length cp) (by simp [results, Tryd.results18, go_sem]) rfl ⟨_, rfl, ⟨b, off, cp, rfl, by simpa using hf3⟩, hs3⟩
/-- Kept. -/
theorem kept_bs {base : Nat} (v u : Value) (bs : List UInt8) (w : World) (h : Lentd base w v bs) (hu : Bs w u bs) (hl : bs.length ≤ 140737488351232) :
    Calls Tryd.prog 20 #[v, u] w fun e w' => e = .returned (.bool true) ∧ w = w' := by
  have c1 := conv_bs (P := Tryd.prog) (src := 25) (dst := 9) Tryd.underlying25 Tryd.underlying5 Tryd.underlying9 h.bs
  have c2 := conv_bs (P := Tryd.prog) (src := 25) (dst := 9) Tryd.underlying25 Tryd.underlying5 Tryd.underlying9 hu
  obtain ⟨A, cap2, rfl, k1, k2, k3⟩ := id hu
  obtain ⟨b, off, cap, rfl, hf⟩ := h
  obtain ⟨hcap, hcap2, _⟩ := Lentd.cap hf
  have hcell := (Fresh.at_ hf bs.length (by simp)).1
  rw [show at8 (bs ++ [167]) bs.length = 167 by simp [at8]] at hcell
  have e1 : eqB bs bs = true := eqB_true rfl
  clear k3 hf hu
  go_enter Tryd.func20, Tryd.ntmps20
  go_wp2
  go_ret
  exact ⟨rfl, rfl⟩
end Go.Proofs.YtmaofhiapkfoaaaDoor
