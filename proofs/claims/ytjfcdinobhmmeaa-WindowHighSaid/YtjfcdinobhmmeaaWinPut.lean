/- window.put. -/
import Derived.Test.YtjfcdinobhmmeaaWinSt
import Derived.Deep.RegionLaw
import Derived.Deep.DrawnRows
import Derived.Deep.DeepCutAuto
namespace Go.Proofs.Ytjfcdinobhmmeaa
open Go.RowKit
set_option linter.unusedVariables false
set_option linter.unusedSimpArgs false
attribute [local go_sem ↓] Go.wp_at_zero Go.wp_at_succ

theorem hinfo_id : (Try.prog.info? 2).map (fun i => (i.zero, i.size, i.bytes)) = some (some (.int .i64 0), 1, 8) := by kernel_rfl
theorem hinfo_now : (Try.prog.info? 4).map (fun i => (i.zero, i.size, i.bytes)) = some (some (.bool false), 1, 1) := by kernel_rfl
theorem pack4 {base : Nat} {w a b : World} {v : Value} {cs : List Value} {S R : Nat → Prop} (hf : Own base b v 1 cs) (hu : Upd S a b) (hr : ∀ k, room v = some k → R k ∨ a.heap.size ≤ k) (hs : Same w a) :
    Own base b v 1 cs ∧ Upd S a b ∧ (∀ k, room v = some k → R k ∨ a.heap.size ≤ k) ∧ Same w a := ⟨hf, hu, hr, hs⟩
set_option maxHeartbeats 2000000 in
theorem put_any {base : Nat} {W : World} {p : Nat} {V : WV} {s : WSt} (h : WinV base W p V s) (hb : base ≤ W.heap.size) (hn : s.ts.length ≤ 100000) (i : Int) (b : Bool) :
    Calls Try.prog 21 #[.pointer (some ⟨p, 0, none⟩), .int .i64 i, .bool b] W fun r w' => r = .returned (.tuple #[]) ∧ WGrew base (wfoot p V) W p w' { s with ts := s.ts ++ [(i, b)] } := by
  have hC := h.2.1
  have hT := h.2.2.2.1
  have hN := h.2.2.2.2.1
  have hap1 : ¬ room V.t = some p := fun e => (h.2.2.2.2.2.2.1 p e).1 rfl
  have hap2 : ¬ room V.n = some p := fun e => h.2.2.2.2.2.2.2 p e rfl
  obtain ⟨⟨c0, c1, c2, c3, c4, c5, c6⟩, hf⟩ := id hC
  have HC := Lib.hid hC
  have HT := Lib.hid hT
  have HN := Lib.hid hN
  have H := Lib.hid h
  have HA1 := Lib.hid hap1
  have HA2 := Lib.hid hap2
  have hpl := hC.lt
  clear hf h hC hT hN hap1 hap2 c0 c1 c2 c3 c6
  have hap3 : Off (fun k => room V.t = some k) V.n := fun k hk e => (H.out.2.2.2.2.2.2.1 k e).2 hk
  have hap4 : ∀ j : Nat, Off (fun k => room V.t = some k) (.slice (some ⟨W.heap.size + j, 0, none⟩) 1 1) := fun j k hk e => by
    have := (HT.out.ge (by decide) k e).2
    simp [room] at hk
    omega
  have HA3 := Lib.hid hap3
  have HA4 := Lib.hid hap4
  clear hap3 hap4
  go_enter Try.func21, Try.ntmps21
  go_upto_region 0 with (fail)
  go_cut [2] (fun v2 wx => v2 = .bool b ∧ PutMid base W p V s i b wx)
  case first =>
    go_region_law (first
      | ((refine step_append_own rfl (.tmp 11) (.tmp 13) 48 rfl Try.underlying48 hinfo_id rfl (by decide) V.t _ rfl rfl (HT.out.same (((Upd.refl (fun _ => False) W).alloc _).drew)) ((Rdr.box _ [.int .i64 i] _ _ _ (by simp) 1 rfl).same (Upd.refl _ _).drew) (by simp; rfl) (by simp; omega) s.ts.length 1 (by simp) rfl (by omega) (by omega) ?_; intro v1 w1 hf1 hu1 hr1; obtain ⟨zA, zn, zc, rfl, -⟩ := Own.open_ hf1; have hc1 := ((HC.out.upd (((Upd.refl (fun _ => False) W).alloc _).drew) (fun h => h)).upd hu1 HA1.out); have d5 := hc1.1.2.2.2.2.2.1; have pl1 := hc1.lt; have n1 := (HN.out.same (((Upd.refl (fun _ => False) W).alloc _).drew)).upd hu1 HA3.out; have C1 := Lib.hid hc1; have N1 := Lib.hid n1; have Q1 := Lib.hid (pack4 (w := W) hf1 hu1 hr1 (((Upd.refl (fun _ => False) W).alloc _).drew)); clear hf1 hr1 hc1 n1))
      | ((refine step_append_own rfl (.tmp 11) (.tmp 13) 48 rfl Try.underlying48 hinfo_id rfl (by decide) V.t _ rfl rfl (HT.out.same ((((Upd.refl (fun _ => False) W).alloc _).alloc _).drew)) ((Rdr.box W [.int .i64 i] _ _ _ rfl 1 rfl).same (((Upd.refl _ _).alloc _).drew)) (by simp; rfl) (by simp; omega) s.ts.length 1 (by simp) rfl (by omega) (by omega) ?_; intro v1 w1 hf1 hu1 hr1; obtain ⟨zA, zn, zc, rfl, -⟩ := Own.open_ hf1; have hc1 := ((HC.out.upd ((((Upd.refl (fun _ => False) W).alloc _).alloc _).drew) (fun h => h)).upd hu1 HA1.out); have d5 := hc1.1.2.2.2.2.2.1; have pl1 := hc1.lt; have n1 := (HN.out.same ((((Upd.refl (fun _ => False) W).alloc _).alloc _).drew)).upd hu1 HA3.out; have C1 := Lib.hid hc1; have N1 := Lib.hid n1; have Q1 := Lib.hid (pack4 (w := W) hf1 hu1 hr1 ((((Upd.refl (fun _ => False) W).alloc _).alloc _).drew)); have BX := Lib.hid (Rdr.upd ((Rdr.box (W.alloc _) [.bool b] _ _ (W.heap.size + 1) (by simp) 1 rfl).same (Upd.refl _ _).drew) hu1 (HA4.out 1)); clear hf1 hr1 hc1 n1))
      | ((refine step_append_own rfl (.tmp 11) (.tmp 13) 48 rfl Try.underlying48 hinfo_id rfl (by decide) V.t _ rfl rfl (HT.out.same ((((Upd.refl (fun _ => False) W).alloc _).alloc _).drew)) ((Rdr.box _ [.int .i64 i] _ _ _ (by simp) 1 rfl).same (Upd.refl _ _).drew) (by simp; rfl) (by simp; omega) s.ts.length 1 (by simp) rfl (by omega) (by omega) ?_; intro v1 w1 hf1 hu1 hr1; obtain ⟨zA, zn, zc, rfl, -⟩ := Own.open_ hf1; have hc1 := ((HC.out.upd ((((Upd.refl (fun _ => False) W).alloc _).alloc _).drew) (fun h => h)).upd hu1 HA1.out); have d5 := hc1.1.2.2.2.2.2.1; have pl1 := hc1.lt; have n1 := (HN.out.same ((((Upd.refl (fun _ => False) W).alloc _).alloc _).drew)).upd hu1 HA3.out; have C1 := Lib.hid hc1; have N1 := Lib.hid n1; have Q1 := Lib.hid (pack4 (w := W) hf1 hu1 hr1 ((((Upd.refl (fun _ => False) W).alloc _).alloc _).drew)); have BX := Lib.hid (Rdr.upd ((Rdr.box W [.bool b] _ _ (W.heap.size + 0) (by simp) 1 rfl).same (((Upd.refl _ _).alloc _).drew)) hu1 (HA4.out 0)); clear hf1 hr1 hc1 n1))
      | ((refine step_append_own rfl (.tmp 18) (.tmp 20) 49 rfl Try.underlying49 hinfo_now rfl (by decide) V.n _ rfl rfl (N1.out.same ((Upd.refl _ _).alloc _)) (Rdr.box _ [.bool b] _ _ _ (by simp) 1 rfl) (by simp; rfl) (by have := hu1.size; simp at this; simp; omega) s.ts.length 1 (by simp) rfl (by omega) (by omega) ?_; intro v2 w2 hf2 hu2 hr2; obtain ⟨yA, yn, yc, rfl, -⟩ := Own.open_ hf2; have hc2 := (C1.out.upd ((Upd.refl (fun _ => False) w1).alloc _) (fun h => h)).upd hu2 HA2.out; have e4 := hc2.1.2.2.2.2.1; have e5 := hc2.1.2.2.2.2.2.1; have e6 := hc2.2 4 (by decide); have e7 := hc2.2 5 (by decide); have Q2 := Lib.hid (pack4 (w := w1) hf2 hu2 hr2 ((Upd.refl (fun _ => False) w1).alloc _)); clear hf2 hu2 hr2 hc2))
      | ((refine step_append_own rfl (.tmp 18) (.tmp 20) 49 rfl Try.underlying49 hinfo_now rfl (by decide) V.n _ rfl rfl (N1.out) (BX.out) (by simp; rfl) (by have := hu1.size; simp at this; simp; omega) s.ts.length 1 (by simp) rfl (by omega) (by omega) ?_; intro v2 w2 hf2 hu2 hr2; obtain ⟨yA, yn, yc, rfl, -⟩ := Own.open_ hf2; have hc2 := (C1.out.upd (Upd.refl (fun _ => False) w1) (fun h => h)).upd hu2 HA2.out; have e4 := hc2.1.2.2.2.2.1; have e5 := hc2.1.2.2.2.2.2.1; have e6 := hc2.2 4 (by decide); have e7 := hc2.2 5 (by decide); have Q2 := Lib.hid (pack4 (w := w1) hf2 hu2 hr2 (Upd.refl (fun _ => False) w1)); clear hf2 hu2 hr2 hc2)))
    all_goals
      go_wp2_with fail
      go_meet
      exact ⟨rfl, put_end H.out Q1.out Q2.out⟩
  case rest =>
    obtain ⟨rfl, V', ⟨hc, hh, ht, hnn⟩, hap, hu, hr⟩ := hcut
    have he : early s.ts ≤ 100000 := Nat.le_trans (List.length_filter_le _ _) hn
    have HE := early_snoc s.ts i b
    cases b
    · have H1 := Lib.hid (show WinV base wc p V' { s with ts := s.ts ++ [(i, false)] } from ⟨H.out.1, by simpa [HE] using hc, hh, ht, hnn, hap⟩)
      have HR := Lib.hid hr
      have HU := Lib.hid hu
      clear hc hh ht hnn hap HE hr hu
      go_wp2_with fail
      refine bodyPost_end (v := .tuple #[]) (by simp [results, Try.results21, go_sem]) rfl ?_
      exact ⟨rfl, WGrew.mk HU.out H1.out hb HR.out H.out.foot⟩
    · have hc' := hc.early ((early s.ts : Int) + 1)
      have hv : WinV base wc p V' s → True := fun _ => trivial
      have e6 := hc.1.2.2.2.2.2.2
      have f6 := hc.2 6 (by decide)
      have H1 := Lib.hid (show WinV base (wc.setCell ⟨p, 6, none⟩ (.int .i64 ((early s.ts : Int) + 1))) p V' { s with ts := s.ts ++ [(i, true)] } from
        ⟨H.out.1, by simpa [HE] using hc', hh.upd ((Upd.refl (fun k => k = p) wc).setCell (p := ⟨p, 6, none⟩) (fun _ => rfl) _) (fun k hk e => (hap.1 k hk).1 e), ht.upd ((Upd.refl (fun k => k = p) wc).setCell (p := ⟨p, 6, none⟩) (fun _ => rfl) _) (fun k hk e => (hap.2.1 k hk).1 e),
          hnn.upd ((Upd.refl (fun k => k = p) wc).setCell (p := ⟨p, 6, none⟩) (fun _ => rfl) _) (fun k hk e => hap.2.2 k hk e), hap⟩)
      have HR := Lib.hid hr
      have HU := Lib.hid (hu.setCell (p := ⟨p, 6, none⟩) (fun _ => .inl rfl) (.int .i64 ((early s.ts : Int) + 1)))
      clear hc hc' hh ht hnn hap HE hr hu hv
      go_wp2_with fail
      refine bodyPost_end (v := .tuple #[]) (by simp [results, Try.results21, go_sem]) rfl ?_
      exact ⟨rfl, WGrew.mk HU.out H1.out hb HR.out H.out.foot⟩
end Go.Proofs.Ytjfcdinobhmmeaa
