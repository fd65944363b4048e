/- What the reference's Lent, Kept and Spoil do. -/
import Derived.Test.YtgfdadbgbdcehaaRowsB
import Derived.Lib.Hide
namespace Go.Proofs.Ytgfdadbgbdcehaa
open Go.RowKit
set_option linter.unusedVariables false
set_option linter.unusedSimpArgs false

theorem li5 : (Try.prog.info? 5).map (fun i => (i.zero, i.size, i.bytes)) = some (some (.int .u8 0), 1, 1) := by kernel_rfl
/-- Bytes of the call's own with the mark behind them. -/
def Lentd (base : Nat) (w : World) (v : Value) (bs : List UInt8) : Prop :=
  ∃ b off cap, v = .slice (some ⟨b, off, none⟩) bs.length cap ∧ Fresh base w (.slice (some ⟨b, off, none⟩) (bs.length + 1) cap) (bs ++ [167])
theorem Lentd.cap {base : Nat} {w : World} {A : Option Addr} {n cap : Nat} {xs : List UInt8} (h : Fresh base w (.slice A n cap) xs) : n ≤ cap ∧ cap ≤ 9223372036854775807 ∧ xs.length = n := by
  obtain ⟨A', n', cap', e, h1, h2, h3, h4⟩ := h
  injection e with e1 e2 e3
  subst e2 e3
  exact ⟨h2, h3, by simpa using h1⟩
theorem Lentd.fresh {base : Nat} {w : World} {v : Value} {bs : List UInt8} (h : Lentd base w v bs) : Fresh base w v bs := by
  obtain ⟨b, off, cap, rfl, hf⟩ := h
  obtain ⟨A', n', cap', e, h1, h2, h3, h4⟩ := hf
  injection e with e1 e2 e3
  subst e2 e3
  refine ⟨_, _, _, rfl, by simp, by omega, h3, ?_⟩
  rcases h4 with h4 | ⟨b', off', e1', hb, hc, hr⟩
  · omega
  · rw [← e1] at e1'
    injection e1' with e1'
    injection e1' with e1' e4
    subst e1' e4
    refine .inr ⟨_, _, rfl, hb, fun j u hj => hc j u ?_, hr⟩
    rw [List.map_append, List.getElem?_append_left (by have := (List.getElem?_eq_some_iff.1 hj).1; exact this)]
    exact hj
theorem Lentd.bs {base : Nat} {w : World} {v : Value} {bs : List UInt8} (h : Lentd base w v bs) : Bs w v bs := h.fresh.bs
theorem Lentd.upd {base : Nat} {S : Nat → Prop} {w w' : World} {v : Value} {bs : List UInt8} (h : Lentd base w v bs) (hu : Upd S w w') (ho : Off S v) : Lentd base w' v bs := by
  obtain ⟨b, off, cap, rfl, hf⟩ := h
  refine ⟨b, off, cap, rfl, hf.upd hu ?_⟩
  intro k hk
  exact ho k hk
theorem Lentd.same {base : Nat} {w w' : World} {v : Value} {bs : List UInt8} (h : Lentd base w v bs) (hu : Same w w') : Lentd base w' v bs := h.upd hu (Off.false v)
theorem Lentd.room {base : Nat} {w : World} {v : Value} {bs : List UInt8} (h : Lentd base w v bs) : ∀ k, room v = some k → base ≤ k ∧ k < w.heap.size := h.fresh.ge
theorem Fresh.open_ {base : Nat} {w : World} {v : Value} {xs : List UInt8} {y : UInt8} (h : Fresh base w v (xs ++ [y])) : ∃ b off cap, v = .slice (some ⟨b, off, none⟩) (xs.length + 1) cap := by
  obtain ⟨A, n', cap', rfl, h1, h2, h3, h4⟩ := h
  have hn : xs.length + 1 = n' := by simpa using h1
  rcases h4 with h4 | ⟨b', off', e1', hb, hc, hr⟩
  · omega
  · exact ⟨b', off', cap', by rw [e1', hn]⟩
/-- Lent. -/
theorem lent_bs (v : Value) (bs : List UInt8) (w : World) (h : Bs w v bs) (hl : bs.length ≤ 140737488351232) :
    Calls Try.prog 16 #[v] w fun e w' => ∃ v', e = .returned v' ∧ Lentd w.heap.size w' v' bs ∧ Same w w' := by
  obtain ⟨A, cap, rfl, k1, k2, k3⟩ := id h
  have H := Lib.hid h
  clear h k3
  go_enter Try.func16, Try.ntmps16
  go_wp2_with
    (first
    | (at_builtin; refine wpl_append_bytes rfl (.tmp 4) (.tmp 5) 28 rfl Try.underlying28 li5 w.heap.size (.slice none 0 0) (.slice A bs.length cap) [] bs bs rfl rfl rfl (Fresh.nil _ _) H.out (Nat.le_refl _) (by simp; omega) ?_; intro v2 w2 hf2 hu2 hr2)
    | (at_builtin; refine wpl_append_bytes rfl (.tmp 7) (.tmp 8) 28 rfl Try.underlying28 li5 w.heap.size v2 _ bs [167] (bs ++ [167]) rfl rfl rfl (hf2.same ((Upd.refl _ w2).alloc _)) (Bs.one w2 167 _ _ rfl (by decide) (by decide)) (by have := hu2.size; simp; omega) (by simp; omega) ?_; intro v3 w3 hf3 hu3 hr3; obtain ⟨b, off, cp, rfl⟩ := Fresh.open_ hf3; have hcp := (Lentd.cap hf3).1; have hcp2 := (Lentd.cap hf3).2.1))
  have hs2 : Same w w2 := hu2.mono fun i _ hi => by simp [room] at hi
  have hs3 := Same.row (Same.trans hs2 ((Upd.refl _ w2).alloc _)) (hf2.same ((Upd.refl _ w2).alloc _)) hu3
  exact bodyPost_ret (v := .slice (some ⟨b, off, none⟩) bs.length cp) (by simp [results, Try.results16, go_sem]) rfl ⟨_, rfl, ⟨b, off, cp, rfl, by simpa using hf3⟩, hs3⟩
/-- Kept. -/
theorem kept_bs {base : Nat} (v u : Value) (bs : List UInt8) (w : World) (h : Lentd base w v bs) (hu : Bs w u bs) (hl : bs.length ≤ 140737488351232) :
    Calls Try.prog 26 #[v, u] w fun e w' => e = .returned (.bool true) ∧ w = w' := by
  have c1 := conv_bs (P := Try.prog) (src := 28) (dst := 9) Try.underlying28 Try.underlying5 Try.underlying9 h.bs
  have c2 := conv_bs (P := Try.prog) (src := 28) (dst := 9) Try.underlying28 Try.underlying5 Try.underlying9 hu
  obtain ⟨A, cap2, rfl, k1, k2, k3⟩ := id hu
  obtain ⟨b, off, cap, rfl, hf⟩ := h
  obtain ⟨hcap, hcap2, _⟩ := Lentd.cap hf
  have hcell := (Fresh.at_ hf bs.length (by simp)).1
  rw [show at8 (bs ++ [167]) bs.length = 167 by simp [at8]] at hcell
  have e1 : eqB bs bs = true := eqB_true rfl
  clear k3 hf hu
  go_enter Try.func26, Try.ntmps26
  go_wp2
  go_ret
  exact ⟨rfl, rfl⟩
/-- Spoil. -/
theorem spoil_bs {base : Nat} (v : Value) (bs : List UInt8) (w : World) (h : Fresh base w v bs) (hb : base ≤ w.heap.size) (hl : bs.length ≤ 140737488351232) :
    Calls Try.prog 21 #[v] w fun e w' => e = .returned (.tuple #[]) ∧ Upd (fun k => room v = some k) w w' := by
  obtain ⟨A, n, cap, rfl, q1, q2, q3, q4⟩ := id h
  obtain rfl : bs.length = n := by simpa using q1
  clear q1 q4
  go_enter Try.func21, Try.ntmps21
  go_wp2
  go_loopw [2] (fun v2 wr => ∃ k : Nat, k ≤ bs.length ∧ v2 = .int .i64 k ∧ ∃ xs, xs.length = bs.length ∧ Fresh base wr (.slice A bs.length cap) xs ∧ Upd (fun k => room (.slice A bs.length cap) = some k) w wr) (fun v2 _ => bs.length - (intOf v2).toNat)
  case atStart => exact ⟨0, by omega, rfl, bs, rfl, h, Upd.refl _ w⟩
  case round =>
    obtain ⟨k, hk, rfl, xs, hx, hf, hs⟩ := hrel
    by_cases hlt : k < bs.length
    · obtain ⟨b, off, rfl⟩ := Fresh.addr hf (by omega)
      obtain ⟨hcell, hfr⟩ := hf.at_ k (by omega)
      obtain ⟨f1, f2, f3⟩ := hf.set k (by omega) 90 90 rfl
      have hs3 := Upd.trans hs f2 fun i _ e => by rw [e]; exact room_some _ _ _ _ (by omega)
      have F1 := Lib.hid f1
      have S3 := Lib.hid hs3
      have HX := Lib.hid hx
      have g1 : (k : Int) < (bs.length : Int) := by omega
      clear f1 f2 hs3 hf h hx
      go_wp2
      go_roundw
      case rel => exact ⟨k + 1, by omega, by go_num, _, by rw [List.length_set]; exact HX.out, F1.out, S3.out⟩
      case measure => simp [intOf]; omega
    · obtain rfl : k = bs.length := by omega
      have HF := Lib.hid hf
      have HX := Lib.hid hx
      have hsz := hs.size
      clear hf hx h
      go_wp2_with (at_builtin; refine wpl_append_bytes rfl (.tmp 12) (.tmp 13) 28 rfl Try.underlying28 li5 base (.slice A bs.length cap) _ xs [91] (xs ++ [91]) rfl rfl rfl (HF.out.same ((Upd.refl _ wr).alloc _)) (Bs.one wr 91 _ _ rfl (by decide) (by decide)) (by simp; omega) (by have := HX.out; simp; omega) ?_; intro v3 w3 hf3 hu3 hr3; obtain ⟨b, off, cp, rfl⟩ := Fresh.open_ hf3; have hcp := (Lentd.cap hf3).1; have hcp2 := (Lentd.cap hf3).2.1; obtain ⟨hcell, hfr⟩ := hf3.at_ xs.length (by simp); obtain ⟨f1, f2, f3⟩ := hf3.set xs.length (by simp) 92 92 rfl; have HR := Lib.hid (hr3 b (room_some _ _ _ _ (by omega))); have F2 := Lib.hid f2; have U3 := Lib.hid hu3; clear f1 f2 hf3 hr3 hu3)
      refine bodyPost_end (v := .tuple #[]) (by simp [results, Try.results21, go_sem]) rfl ?_
      refine ⟨rfl, Upd.trans (Upd.trans (hs.alloc _) U3.out fun i _ e => e) F2.out fun i hi e => ?_⟩
      subst e
      rcases HR.out with e | e
      · exact e
      · simp at e; omega
end Go.Proofs.Ytgfdadbgbdcehaa
