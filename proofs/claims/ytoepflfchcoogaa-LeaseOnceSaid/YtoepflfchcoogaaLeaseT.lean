/- The reference's Sent of a round that is taken; calls by one law. -/
import Derived.Test.YtoepflfchcoogaaLeaseR
import Derived.Deep.DeepCutAuto
import Derived.Deep.CutRange
import Derived.Deep.CutBlock
namespace Go.Proofs.Ytoepflfchcoogaa
open Go.RowKit
set_option linter.unusedVariables false
set_option linter.unusedSimpArgs false
attribute [local go_sem ↓] Go.wp_at_zero Go.wp_at_succ

theorem hinfo_num : (Try.prog.info? 2).map (fun i => (i.zero, i.size, i.bytes)) = some (some (.int .i64 0), 1, 8) := by kernel_rfl
section
variable {base : Nat} {W : World} {q : Nat} {vr vt : Value} {a b : Int} {ls : List (Int × Int)}
theorem rsent_good (h : RLeV base W q vr vt a b (ls.map (·.1)) (ls.map (·.2))) (hok : LOk ls) (hb : base ≤ W.heap.size) (r t : Int) (hg : ¬ (r < 1 ∨ 1152921504606846976 < r ∨ t < 0 ∨ 1099511627776 < t)) (hx : ls.length = 0 ∨ ∃ n : Nat, ls.length = n + 1 ∧ (ls.getD n (0, 0)).1 < r ∧ (ls.getD n (0, 0)).2 ≤ t) : Calls Try.prog 14 #[.pointer (some ⟨q, 0, none⟩), .int .i64 r, .int .i64 t] W fun e w' => e = .returned (.int .i64 0) ∧ ∃ vr' vt', RLeV base w' q vr' vt' a b ((pushL ls (r, t)).map (·.1)) ((pushL ls (r, t)).map (·.2)) ∧ Upd (rlfoot q vr vt) W w' ∧ ∀ k, rlfoot q vr' vt' k → rlfoot q vr vt k ∨ W.heap.size ≤ k := by
  have g1 : 1 ≤ r := by omega
  have g2 : r ≤ 1152921504606846976 := by omega
  have g3 : 0 ≤ t := by omega
  have g4 : t ≤ 1099511627776 := by omega
  obtain ⟨⟨c0, c1, c2, c3⟩, hf⟩ := h.2.1
  have fr2 := hf 2 (by decide)
  have fr3 := hf 3 (by decide)
  obtain ⟨A, m, cap, rfl, h1, h2, h3⟩ := h.2.2.1.open_
  obtain ⟨B, m', cup, rfl, h4, h5, h6⟩ := h.2.2.2.1.open_
  have h1 : ls.length = m := by simpa using h1
  have h4 : ls.length = m' := by simpa using h4
  have hq := h.2.1.lt
  have hlen := hok.1
  have HB := Lib.hid hb
  have H := Lib.hid h
  have hcase : (m = 0) ∨ (∃ n bA oA bB oB z1 z2, m = n + 1 ∧ A = some (⟨bA, oA, none⟩ : Addr) ∧ B = some (⟨bB, oB, none⟩ : Addr) ∧ W.cell? ⟨bA, oA + n, none⟩ = some (.int .i64 z1) ∧ W.cell? ⟨bB, oB + n, none⟩ = some (.int .i64 z2) ∧ z1 < r ∧ z2 ≤ t) := by
    rcases hx with e | ⟨n, e, e1, e2⟩
    · exact .inl (by omega)
    · obtain ⟨bA, oA, rfl, hA⟩ := Own.at_ h.2.2.1 (by simp; omega)
      obtain ⟨bB, oB, rfl, hB⟩ := Own.at_ h.2.2.2.1 (by simp; omega)
      exact .inr ⟨n, bA, oA, bB, oB, _, _, by omega, rfl, rfl, hA _ _ (num_get (·.1) ls n (by omega)), hB _ _ (num_get (·.2) ls n (by omega)), e1, e2⟩
  have hml : m ≤ 100 := by omega
  have HM := Lib.hid h1
  obtain rfl : m = m' := by omega
  clear hf h hx hg hb hok h1 h4 hlen
  rcases hcase with rfl | ⟨n, bA, oA, bB, oB, z1, z2, rfl, rfl, rfl, x0, x1, k1, k2⟩
  · go_enter Try.func14, Try.ntmps14
    go_upto_region 7 with (at_builtin; refine wpl_append_own rfl (.tmp 57) (.tmp 59) 22 rfl Try.underlying22 hinfo_num rfl (by decide) (.slice A 0 cap) _ rfl rfl (H.out.2.2.1.same ((Upd.refl _ _).alloc _)) (Rdr.box _ [.int .i64 r] _ _ _ rfl 1 rfl) (by simp; rfl) (by have := HB.out; simp; omega) ls.length 1 (by simp) rfl (by have := HM.out; omega) (by have := HM.out; omega) ?_; intro v6 w6 hf6 hu6 hr6; obtain ⟨zA, zn, zc, rfl, zl, zm, -⟩ := Own.open_ hf6; have hu60 := Same.then ((Upd.refl (fun _ => False) W).alloc _) hu6; have hc6 := H.out.2.1.upd hu60 (fun e => (H.out.2.2.2.2.1 _ e).1 rfl); have d62 := hc6.1.2.2.1; have fr62 := hc6.2 2 (by decide); have HF6 := Lib.hid hf6; have HU6 := Lib.hid hu60; have HR6 := Lib.hid hr6; clear hf6 hu6 hr6 hc6 hu60)
    obtain ⟨r1, r2, r3⟩ := RLeV.setR (rs' := ls.map (·.1) ++ [r]) H.out (by rw [List.map_append]; exact HF6.out) HU6.out (fun k hk => (HR6.out k hk).imp (fun h => h) fun e => by simp at e; omega)
    have hzn : zn = ls.length + 1 := by simp at zl; omega
    generalize w6.setCell ⟨q, 2, none⟩ (.slice zA zn zc) = w7 at r1 r2 ⊢
    have hz7 := r2.size
    obtain ⟨⟨m0, m1, m2, m3⟩, mf⟩ := r1.2.1
    have fr73 := mf 3 (by decide)
    have HR := Lib.hid (And.intro r1 (And.intro r2 r3))
    subst hzn
    have hq7 := Nat.lt_of_lt_of_le hq hz7
    clear r1 r2 r3 mf HF6 HU6 HR6 d62 fr62 fr2 fr3 c0 c1 c2 c3 zl h1 h4 hq
    go_upto_region 8 with (at_builtin; refine wpl_append_own rfl (.tmp 67) (.tmp 69) 22 rfl Try.underlying22 hinfo_num rfl (by decide) (.slice B 0 cup) _ rfl rfl (HR.out.1.2.2.2.1.same ((Upd.refl _ _).alloc _)) (Rdr.box _ [.int .i64 t] _ _ _ rfl 1 rfl) (by simp; rfl) (by have := HB.out; simp; omega) ls.length 1 (by simp) rfl (by have := HM.out; omega) (by have := HM.out; omega) ?_; intro v8 w8 hf8 hu8 hr8; obtain ⟨yA, yn, yc, rfl, yl, ym, -⟩ := Own.open_ hf8; have hu80 := Same.then ((Upd.refl (fun _ => False) w7).alloc _) hu8; have hc8 := HR.out.1.2.1.upd hu80 (fun e => HR.out.1.2.2.2.2.2 _ e rfl); have d83 := hc8.1.2.2.2; have fr83 := hc8.2 3 (by decide); have HF8 := Lib.hid hf8; have HU8 := Lib.hid hu80; have HR8 := Lib.hid hr8; clear hf8 hu8 hr8 hc8 hu80)
    obtain ⟨s1, s2, s3⟩ := RLeV.setT (ts' := ls.map (·.2) ++ [t]) HR.out.1 (by rw [List.map_append]; exact HF8.out) HU8.out (fun k hk => (HR8.out k hk).imp (fun h => h) fun e => by simp at e; omega)
    have hyn : yn = ls.length + 1 := by simp at yl; omega
    generalize w8.setCell ⟨q, 3, none⟩ (.slice yA yn yc) = w9 at s1 s2 ⊢
    obtain ⟨⟨n0, n1, n2, n3⟩, nf⟩ := s1.2.1
    have fr92 := nf 2 (by decide)
    have fr93 := nf 3 (by decide)
    have hst := Step.trans HR.out.2 ⟨s2, s3⟩
    have HS := Lib.hid (And.intro s1 hst)
    subst hyn
    clear s1 s2 s3 hst nf HF8 HU8 HR8 HR d83 fr83 fr73 m0 m1 m2 m3 yl
    by_cases hl : ls.length < 100
    · have g5 : ¬ (100 : Int) ≤ 0 := by have := HM.out; omega
      have HP : Hid (pushL ls (r, t) = ls ++ [(r, t)]) := Lib.hid (if_pos hl)
      clear hl
      go_wp2_with fail
      go_ret
      rw [HP.out]
      exact ⟨rfl, _, _, by simpa using HS.out.1, HS.out.2⟩
    · exfalso
      have := HM.out
      omega
  · have e1 : IntKind.i64.wrap (n : Int) = (n : Int) := by rw [IntKind.wrap_i64]; omega
    have f1 : (0 : Int) < (n : Int) + 1 := by omega
    have f2 : (0 : Int) ≤ (n : Int) := by omega
    have f3 : (n : Int) < (n : Int) + 1 := by omega
    go_enter Try.func14, Try.ntmps14
    go_upto_region 7 with (at_builtin; refine wpl_append_own rfl (.tmp 57) (.tmp 59) 22 rfl Try.underlying22 hinfo_num rfl (by decide) (.slice (some ⟨bA, oA, none⟩) (n + 1) cap) _ rfl rfl (H.out.2.2.1.same ((Upd.refl _ _).alloc _)) (Rdr.box _ [.int .i64 r] _ _ _ rfl 1 rfl) (by simp; rfl) (by have := HB.out; simp; omega) ls.length 1 (by simp) rfl (by have := HM.out; omega) (by have := HM.out; omega) ?_; intro v6 w6 hf6 hu6 hr6; obtain ⟨zA, zn, zc, rfl, zl, zm, -⟩ := Own.open_ hf6; have hu60 := Same.then ((Upd.refl (fun _ => False) W).alloc _) hu6; have hc6 := H.out.2.1.upd hu60 (fun e => (H.out.2.2.2.2.1 _ e).1 rfl); have d62 := hc6.1.2.2.1; have fr62 := hc6.2 2 (by decide); have HF6 := Lib.hid hf6; have HU6 := Lib.hid hu60; have HR6 := Lib.hid hr6; clear hf6 hu6 hr6 hc6 hu60)
    obtain ⟨r1, r2, r3⟩ := RLeV.setR (rs' := ls.map (·.1) ++ [r]) H.out (by rw [List.map_append]; exact HF6.out) HU6.out (fun k hk => (HR6.out k hk).imp (fun h => h) fun e => by simp at e; omega)
    have hzn : zn = ls.length + 1 := by simp at zl; omega
    generalize w6.setCell ⟨q, 2, none⟩ (.slice zA zn zc) = w7 at r1 r2 ⊢
    have hz7 := r2.size
    obtain ⟨⟨m0, m1, m2, m3⟩, mf⟩ := r1.2.1
    have fr73 := mf 3 (by decide)
    have HR := Lib.hid (And.intro r1 (And.intro r2 r3))
    subst hzn
    have hq7 := Nat.lt_of_lt_of_le hq hz7
    clear r1 r2 r3 mf HF6 HU6 HR6 d62 fr62 fr2 fr3 c0 c1 c2 c3 zl h1 h4 hq
    go_upto_region 8 with (at_builtin; refine wpl_append_own rfl (.tmp 67) (.tmp 69) 22 rfl Try.underlying22 hinfo_num rfl (by decide) (.slice (some ⟨bB, oB, none⟩) (n + 1) cup) _ rfl rfl (HR.out.1.2.2.2.1.same ((Upd.refl _ _).alloc _)) (Rdr.box _ [.int .i64 t] _ _ _ rfl 1 rfl) (by simp; rfl) (by have := HB.out; simp; omega) ls.length 1 (by simp) rfl (by have := HM.out; omega) (by have := HM.out; omega) ?_; intro v8 w8 hf8 hu8 hr8; obtain ⟨yA, yn, yc, rfl, yl, ym, -⟩ := Own.open_ hf8; have hu80 := Same.then ((Upd.refl (fun _ => False) w7).alloc _) hu8; have hc8 := HR.out.1.2.1.upd hu80 (fun e => HR.out.1.2.2.2.2.2 _ e rfl); have d83 := hc8.1.2.2.2; have fr83 := hc8.2 3 (by decide); have HF8 := Lib.hid hf8; have HU8 := Lib.hid hu80; have HR8 := Lib.hid hr8; clear hf8 hu8 hr8 hc8 hu80)
    obtain ⟨s1, s2, s3⟩ := RLeV.setT (ts' := ls.map (·.2) ++ [t]) HR.out.1 (by rw [List.map_append]; exact HF8.out) HU8.out (fun k hk => (HR8.out k hk).imp (fun h => h) fun e => by simp at e; omega)
    have hyn : yn = ls.length + 1 := by simp at yl; omega
    generalize w8.setCell ⟨q, 3, none⟩ (.slice yA yn yc) = w9 at s1 s2 ⊢
    obtain ⟨⟨n0, n1, n2, n3⟩, nf⟩ := s1.2.1
    have fr92 := nf 2 (by decide)
    have fr93 := nf 3 (by decide)
    have hst := Step.trans HR.out.2 ⟨s2, s3⟩
    have HS := Lib.hid (And.intro s1 hst)
    subst hyn
    clear s1 s2 s3 hst nf HF8 HU8 HR8 HR d83 fr83 fr73 m0 m1 m2 m3 yl
    by_cases hl : ls.length < 100
    · have g5 : ¬ (100 : Int) ≤ (n : Int) + 1 := by have := HM.out; omega
      have HP : Hid (pushL ls (r, t) = ls ++ [(r, t)]) := Lib.hid (if_pos hl)
      clear hl
      go_wp2_with fail
      go_ret
      rw [HP.out]
      exact ⟨rfl, _, _, by simpa using HS.out.1, HS.out.2⟩
    · have hl1 : ls.length = 100 := by have := HM.out; omega
      have g5 : (100 : Int) ≤ (n : Int) + 1 := by have := HM.out; omega
      have HP : Hid (pushL ls (r, t) = (ls ++ [(r, t)]).drop 1) := Lib.hid (if_neg hl)
      obtain ⟨b1, o1, rfl, -⟩ := Own.at_ HS.out.1.2.2.1 (by simp)
      obtain ⟨b2, o2, rfl, -⟩ := Own.at_ HS.out.1.2.2.2.1 (by simp)
      have g6 : ¬ zc = 1 := by omega
      have g7 : 1 ≤ zc := by omega
      have g8 : ¬ yc = 1 := by omega
      have g9 : 1 ≤ yc := by omega
      have g10 : (1 : Int) ≤ (ls.length : Int) + 1 := by omega
      have hb1 := Own.back HS.out.1.2.2.1 1 (by omega)
      have hb2 := Own.back HS.out.1.2.2.2.1 1 (by omega)
      rw [if_neg g6, show (1 * 1 : Nat) = 1 from rfl, ← List.map_drop] at hb1
      rw [if_neg g8, show (1 * 1 : Nat) = 1 from rfl, ← List.map_drop] at hb2
      have hr1 := room_back (some ⟨b1, o1, none⟩) (ls.length + 1) (ls.length + 1 - 1) zc 1 1
      have hr2 := room_back (some ⟨b2, o2, none⟩) (ls.length + 1) (ls.length + 1 - 1) yc 1 1
      rw [if_neg g6] at hr1
      rw [if_neg g8] at hr2
      obtain ⟨t1, t2, t3⟩ := RLeV.setR HS.out.1 hb1 (Upd.refl _ _) fun k hk => .inl (hr1 k hk)
      obtain ⟨u1, u2, u3⟩ := RLeV.setT t1 (hb2.upd ((Upd.refl (fun k => k = q) w9).setCell (p := ⟨q, 2, none⟩) (fun _ => rfl) _) fun k hk e => HS.out.1.2.2.2.2.2 k (hr2 k hk) e) (Upd.refl _ _) fun k hk => .inl (hr2 k hk)
      have HT := Lib.hid (And.intro u1 (Step.trans HS.out.2 (Step.trans ⟨t2, t3⟩ ⟨u2, u3⟩)))
      clear hl hl1 hb1 hb2 hr1 hr2 t1 t2 t3 u1 u2 u3 HS
      go_wp2_with fail
      go_ret
      rw [HP.out]
      rw [show ((ls ++ [(r, t)]).drop 1).map (·.1) = (ls.map (·.1) ++ [r]).drop 1 by rw [List.map_drop, List.map_append]; rfl, show ((ls ++ [(r, t)]).drop 1).map (·.2) = (ls.map (·.2) ++ [t]).drop 1 by rw [List.map_drop, List.map_append]; rfl]
      exact ⟨rfl, _, _, HT.out.1, HT.out.2⟩
end
end Go.Proofs.Ytoepflfchcoogaa
