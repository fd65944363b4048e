/- What field.Writer does: bytes, the end. -/
import Derived.Test.YtgfdadbgbdcehaaWriter
namespace Go.Proofs.Ytgfdadbgbdcehaa
open Go.RowKit
set_option linter.unusedVariables false
set_option linter.unusedSimpArgs false

def wbE (e size : Int) (n : Nat) : Int := if e ≠ 0 then e else addE size n
def wbL (bs : List UInt8) (e size : Int) (ps : List UInt8) : List UInt8 := if e = 0 ∧ addE size ps.length = 0 then addL bs size ps else bs
/-- A new writer. -/
theorem newWriter_any (w : World) : Calls Try.prog 31 #[] w fun r w' => r = .returned (.pointer (some ⟨w.heap.size, 0, none⟩)) ∧ WObj w.heap.size w' w.heap.size (.slice none 0 0) [] 0 ∧ Same w w' := by
  go_enter Try.func31, Try.ntmps31
  go_wp2
  go_ret
  exact ⟨rfl, ⟨Nat.le_refl _, Cell2.new w _ _ _ _ rfl, Fresh.nil _ _, by simp [room]⟩, (Upd.refl _ w).alloc _⟩
/-- Bytes. -/
theorem wbytes_any {base : Nat} (p : Nat) (v u : Value) (bs ps : List UInt8) (e size : Int) (w : World) (h : WObj base w p v bs e) (hu : Bs w u ps) (hb : base ≤ w.heap.size) (hl : bs.length ≤ 140737488351232) (hl2 : ps.length ≤ 140737488351232) :
    Calls Try.prog 32 #[.pointer (some ⟨p, 0, none⟩), .int .i64 size, u] w fun r w' => r = .returned (.tuple #[]) ∧ Grew base w p v w' (wbL bs e size ps) (wbE e size ps.length) := by
  obtain ⟨c0, c1, c2, c3⟩ := h.2.1
  by_cases he : e = 0
  · subst he
    have ha := add_bs v u bs ps size w h.2.2.1.bs hu hl hl2
    have HH := Lib.hid h
    obtain ⟨A, n, cap, rfl⟩ := Fresh.shape h.2.2.1
    by_cases hE : addE size ps.length = 0
    · have h1 : wbE 0 size ps.length = 0 := by unfold wbE; rw [if_neg (by simp)]; exact hE
      have h2 : wbL bs 0 size ps = addL bs size ps := by unfold wbL; rw [if_pos ⟨rfl, hE⟩]
      rw [h1, h2]
      rw [hE] at ha
      generalize addL bs size ps = AL at ha
      have HA := Lib.hid ha
      clear ha h h1 h2 hE
      go_enter Try.func32, Try.ntmps32
      go_wp2_with fail
      refine HA.out.mono ?_
      rintro r w1 ⟨v1, rfl, hf1, hs1⟩
      have hc := HH.out.2.1.upd hs1 id
      have d0 := hc.1
      have d2 := hc.2.2.1
      obtain ⟨A1, n1, cap1, rfl⟩ := Fresh.shape hf1
      have HF := Lib.hid hf1
      have HS := Lib.hid hs1
      clear hf1 hs1 hc
      go_wp2_with fail
      refine bodyPost_end (v := .tuple #[]) (by simp [results, Try.results32, go_sem]) rfl ⟨rfl, ?_⟩
      exact Grew.row HH.out hb (HS.out.mono fun _ _ h => h.elim) (HF.out.mono hb) (fun k hk => .inr (HF.out.ge k hk).1)
    · have h1 : wbE 0 size ps.length = addE size ps.length := by unfold wbE; rw [if_neg (by simp)]
      have h2 : wbL bs 0 size ps = bs := by unfold wbL; rw [if_neg (by omega)]
      rw [h1, h2]
      generalize addL bs size ps = AL at ha
      generalize addE size ps.length = AE at ha hE
      have hne : (AE != 0) = true := by simpa using hE
      have HA := Lib.hid ha
      clear ha h h1 h2 hE
      go_enter Try.func32, Try.ntmps32
      go_wp2_with fail
      refine HA.out.mono ?_
      rintro r w1 ⟨v1, rfl, hf1, hs1⟩
      have ho := HH.out.upd hs1 fun _ _ h => h
      have d1 := ho.2.1.2.1
      have d3 := ho.2.1.2.2.2
      have HO := Lib.hid ho
      have HS := Lib.hid hs1
      clear hf1 hs1 ho
      go_wp2_with fail
      refine bodyPost_end (v := .tuple #[]) (by simp [results, Try.results32, go_sem]) rfl ⟨rfl, ?_⟩
      exact Grew.trans (HS.out.mono fun _ _ h => h.elim) (fun k hk => .inl hk) (Grew.err HO.out AE)
  · have h1 : wbE e size ps.length = e := by unfold wbE; rw [if_pos he]
    have h2 : wbL bs e size ps = bs := by unfold wbL; rw [if_neg (by omega)]
    rw [h1, h2]
    have hne : (e != 0) = true := by simpa using he
    have HG := Lib.hid (Grew.refl h)
    clear h h1 h2 he
    go_enter Try.func32, Try.ntmps32
    go_wp2_with fail
    exact bodyPost_ret (v := .tuple #[]) (by simp [results, Try.results32, go_sem]) rfl ⟨rfl, HG.out⟩
/-- The end. -/
theorem wend_any {base : Nat} (p : Nat) (v : Value) (bs : List UInt8) (e : Int) (w : World) (h : WObj base w p v bs e) (hb : base ≤ w.heap.size) (hl : bs.length ≤ 200000000000000) :
    Calls Try.prog 36 #[.pointer (some ⟨p, 0, none⟩)] w fun r w' => ∃ v', r = .returned (.tuple #[v', .int .i64 e]) ∧ Fresh w.heap.size w' v' (if e = 0 then bs else []) ∧ Same w w' := by
  obtain ⟨c0, c1, c2, c3⟩ := h.2.1
  by_cases he : e = 0
  · subst he
    have hc := clone_bs v bs w h.2.2.1.bs hl
    obtain ⟨A, n, cap, rfl⟩ := Fresh.shape h.2.2.1
    rw [if_pos rfl]
    have HC := Lib.hid hc
    clear hc h
    go_enter Try.func36, Try.ntmps36
    go_wp2_with fail
    refine HC.out.mono ?_
    rintro r w1 ⟨v1, rfl, hf1, hs1⟩
    have HF := Lib.hid hf1
    have HS := Lib.hid hs1
    clear hf1 hs1
    go_wp2_with fail
    go_ret2
    exact ⟨_, rfl, HF.out, HS.out⟩
  · rw [if_neg he]
    have hne : (e != 0) = true := by simpa using he
    clear h he
    go_enter Try.func36, Try.ntmps36
    go_wp2_with fail
    go_quiet (fail)
    go_wp2_with fail
    go_ret2
    exact ⟨_, rfl, Fresh.nil _ _, (Upd.refl _ w).drewN _⟩
end Go.Proofs.Ytgfdadbgbdcehaa
