/- The reference's window: Come, a command that is refused, or taken. -/
import Derived.Test.YtjfcdinobhmmeaaWinRC
import Derived.Deep.QuietTactic
import Derived.BigQuiet
import Derived.Deep.DeepCutAuto
import Derived.Deep.CutRange
namespace Go.Proofs.Ytjfcdinobhmmeaa
open Go.RowKit
set_option linter.unusedVariables false
set_option linter.unusedSimpArgs false
attribute [local go_sem ↓] Go.wp_at_zero Go.wp_at_succ

section
variable {base : Nat} {W : World} {q : Nat} {vl vt : Value} {s : WSt}
theorem WSt.Ok.len64 {s : WSt} (h : s.Ok) : s.ls.length ≤ 64 := by
  have := h.len
  obtain ⟨h1, h2, h3, -⟩ := h
  omega
theorem inB_no {a n x : Int} (h : inB a n x = false) : n ≤ (x - a) % 4294967296 := by
  unfold inB ahead at h
  have := of_decide_eq_false h
  omega
theorem inB_yes {a n x : Int} (h : inB a n x = true) : (x - a) % 4294967296 < n := by
  unfold inB ahead at h
  exact of_decide_eq_true h
theorem room_new {w : World} {v : Value} {q : Nat} (hr : ∀ k, room v = some k → room (.slice none 0 0) = some k ∨ w.heap.size ≤ k) (hq : q < w.heap.size) : ¬ room v = some q := by
  intro e
  rcases hr q e with e2 | e2
  · simp [room] at e2
  · omega
theorem Same.trans' {w w8 w9 : World} {v8 vl : Value} (h : Same w w8) (hr : ∀ k, room v8 = some k → room (.slice none 0 0) = some k ∨ w.heap.size ≤ k) (hu : Upd (fun k => room v8 = some k) w8 w9) : Upd (fun k => room vl = some k) w w9 :=
  (Same.then h (S := fun k => room v8 = some k) hu).block |> fun hb => ⟨hu.os.trans h.os, hu.tape.trans h.tape, hu.output.trans h.output, Nat.le_trans h.size hu.size, fun k hk _ => hb k hk fun e => room_new hr hk e⟩
theorem room_more {w w8 : World} {v8 v9 vl : Value} (h : Same w w8) (hr : ∀ k, room v8 = some k → room (.slice none 0 0) = some k ∨ w.heap.size ≤ k) (h9 : ∀ k, room v9 = some k → room v8 = some k ∨ w8.heap.size ≤ k) : ∀ k, room v9 = some k → room vl = some k ∨ w.heap.size ≤ k := by
  intro k hk
  right
  rcases h9 k hk with e | e
  · rcases hr k e with e2 | e2
    · simp [room] at e2
    · exact e2
  · exact Nat.le_trans h.size e
theorem rfind_from (h : RWinV base W q vl vt s) (hlen : s.ls.length ≤ 100000) (n : Int) (I : Int) (hI : idxOf n s.ls = I) (w : World) (hs : Same W w) : Calls Try.prog 27 #[.pointer (some ⟨q, 0, none⟩), .int .u32 n] w fun r w' => r = .returned (.int .i64 I) ∧ w' = w := by
  subst hI
  refine (rfind_any (h.upd hs fun _ _ h => h) hlen n).mono ?_
  rintro r w' ⟨rfl, rfl⟩
  exact ⟨rfl, rfl⟩
theorem rcome_out (h : RWinV base W q vl vt s) (hok : s.Ok) (n : Int) (hs : inB s.nx (s.sz - s.bz) n = false) (id : Int) :
    Calls Try.prog 10 #[.pointer (some ⟨q, 0, none⟩), .int .u32 n, .bool false, .int .i64 id] W fun r w' => r = .returned (.int .i64 5) ∧ Same W w' := by
  obtain ⟨⟨c0, c1, c2, c3, c4⟩, hf⟩ := h.2.1
  obtain ⟨b1, b2, b3, -⟩ := hok
  have g2 : IntKind.i64.wrap (s.sz - s.bz) = s.sz - s.bz := by rw [IntKind.wrap_i64]; omega
  have g1 : s.sz - s.bz ≤ (n - s.nx) % 4294967296 := inB_no hs
  have g3 : decide (s.sz - s.bz ≤ (n - s.nx) % 4294967296) = true := decide_eq_true g1
  clear hf hs h
  go_enter Try.func10, Try.ntmps10
  go_wp2_with fail
  go_quiet (fail)
  go_wp2_with fail
  go_ret
  exact ⟨rfl, (Upd.refl _ _).drewN _⟩
theorem rcome_dup (h : RWinV base W q vl vt s) (hok : s.Ok) (n : Int) (hs : inB s.nx (s.sz - s.bz) n = true) (hi : 0 ≤ idxOf n s.ls) (id : Int) :
    Calls Try.prog 10 #[.pointer (some ⟨q, 0, none⟩), .int .u32 n, .bool false, .int .i64 id] W fun r w' => r = .returned (.int .i64 5) ∧ Same W w' := by
  have hll := hok.len64
  obtain ⟨⟨c0, c1, c2, c3, c4⟩, hf⟩ := h.2.1
  obtain ⟨b1, b2, b3, -⟩ := hok
  have g2 : IntKind.i64.wrap (s.sz - s.bz) = s.sz - s.bz := by rw [IntKind.wrap_i64]; omega
  have g1 : (n - s.nx) % 4294967296 < s.sz - s.bz := inB_yes hs
  have g3 : decide (s.sz - s.bz ≤ (n - s.nx) % 4294967296) = false := decide_eq_false (by omega)
  obtain ⟨I, hI⟩ : ∃ I, idxOf n s.ls = I := ⟨_, rfl⟩
  have HFD := Lib.hid (rfind_from h (by omega) n I hI)
  rw [hI] at hi
  clear hf hs h hI
  go_enter Try.func10, Try.ntmps10
  go_wp2_with fail
  go_quiet ((go_at_call 27; exact Calls.quiet_of_same (HFD.out _ ((Upd.refl _ _).drewN _))))
  go_wp2_with fail
  go_ret
  exact ⟨rfl, (Upd.refl _ _).drewN _⟩
/-- What a round of Come's loop leaves. -/
def RComeR (base : Nat) (F0 : Nat → Prop) (W : World) (q : Nat) (fin : WSt) (g : Nat) (v11 : Value) (wr : World) : Prop :=
  ∃ s' : WSt, RGrew base F0 W q wr s' ∧ s'.Ok ∧ WSt.drain (s'.ls.length + 1) s' = fin ∧ s'.ls.length + s'.ts.length ≤ 100000 ∧ s'.ls.length ≤ g ∧ v11 = .int .i64 (idxOf s'.nx s'.ls)
theorem RStep.mono_l {F F0 F' : Nat → Prop} {a b : World} (h : Step F F' a b) (hF : ∀ k, F k → F0 k) : Step F0 F' a b := ⟨h.1.mono fun k _ e => hF k e, fun k hk => (h.2 k hk).elim (fun e => .inl (hF k e)) .inr⟩
def RMid (base : Nat) (W : World) (q : Nat) (vl vt : Value) (s' : WSt) (wx : World) : Prop := ∃ v, RWinV base wx q vl v s' ∧ Upd (rfoot q vl vt) W wx ∧ ∀ k, rfoot q vl v k → rfoot q vl vt k ∨ W.heap.size ≤ k
/-- The rest of a round: the row without the element, the two numbers. -/
theorem rtold_end {w2 : World} {v' : Value} {i : Nat} {id : Int} (h : RWinV base W q vl vt { s with ts := s.ts ++ [(id, false)] }) (hid : id = (s.ls.getD i (0, 0)).2) (hf : HeldOwn base w2 v' (s.ls.take i ++ s.ls.drop (i + 1))) (hu : Upd (fun k => room vl = some k) W w2) (hr : ∀ k, room v' = some k → room vl = some k ∨ W.heap.size ≤ k) :
    RGrew base (rfoot q vl vt) W q (((w2.setCell ⟨q, 3, none⟩ v').setCell ⟨q, 2, none⟩ (.int .i64 (s.bz + 1))).setCell ⟨q, 0, none⟩ (.int .u32 ((s.nx + 1) % 4294967296))) (s.told i) := by
  obtain ⟨h0, hu0, hr0⟩ := RWinV.setl h hf hu hr
  have h1 := h0.cellset (s' := { s with bz := s.bz + 1, ls := s.ls.take i ++ s.ls.drop (i + 1), ts := s.ts ++ [(id, false)] }) (h0.2.1.s2 (s.bz + 1)) rfl rfl
  have h2 := h1.cellset (s' := s.told i) (by rw [WSt.told, ← hid]; exact h1.2.1.s0 ((s.nx + 1) % 4294967296)) rfl (by rw [WSt.told, ← hid])
  exact RGrew.mk ((hu0.setCell (p := ⟨q, 2, none⟩) (fun _ => .inl rfl) _).setCell (p := ⟨q, 0, none⟩) (fun _ => .inl rfl) _) h2 hr0
set_option maxRecDepth 100000 in
set_option maxHeartbeats 2000000 in
theorem rcome_take (h : RWinV base W q vl vt s) (hb : base ≤ W.heap.size) (hok : s.Ok) (n : Int) (hn0 : 0 ≤ n) (hn1 : n ≤ 4294967295) (hs : inB s.nx (s.sz - s.bz) n = true) (hi : idxOf n s.ls < 0) (hlen : s.ls.length + s.ts.length ≤ 90000) (id : Int) :
    Calls Try.prog 10 #[.pointer (some ⟨q, 0, none⟩), .int .u32 n, .bool false, .int .i64 id] W fun r w' => r = .returned (.int .i64 0) ∧ RGrew base (rfoot q vl vt) W q w' (WSt.drain (s.ls.length + 1) { s with ls := s.ls ++ [(n, id)] }) := by
  have hokn := hok.hold (id := id) hn0 hn1 hs hi
  have hdm := drain_more (s.ls.length + 1) { s with ls := s.ls ++ [(n, id)] } (by simp)
  generalize hfin : WSt.drain (s.ls.length + 1) { s with ls := s.ls ++ [(n, id)] } = fin at hdm ⊢
  have hll := hok.len64
  obtain ⟨⟨c0, c1, c2, c3, c4⟩, hf⟩ := h.2.1
  obtain ⟨b1, b2, b3, -⟩ := hok
  have g2 : IntKind.i64.wrap (s.sz - s.bz) = s.sz - s.bz := by rw [IntKind.wrap_i64]; omega
  have g1 : (n - s.nx) % 4294967296 < s.sz - s.bz := inB_yes hs
  have g3 : decide (s.sz - s.bz ≤ (n - s.nx) % 4294967296) = false := decide_eq_false (by omega)
  obtain ⟨I, hI⟩ : ∃ I, idxOf n s.ls = I := ⟨_, rfl⟩
  have HFD := Lib.hid (rfind_from h (by omega) n I hI)
  rw [hI] at hi
  have H := Lib.hid h
  have HOKN := Lib.hid hokn
  have HDM := Lib.hid hdm
  have HB := Lib.hid hb
  have HLEN := Lib.hid hlen
  have hqlt := h.2.1.lt
  clear hf hs h hokn hdm hb hlen hfin hI hll
  go_enter Try.func10, Try.ntmps10
  go_wp2_with fail
  go_quiet ((go_at_call 27; exact Calls.quiet_of_same (HFD.out _ ((Upd.refl _ _).drewN _))))
  rename_i nq
  go_wp2_with (at_builtin; refine wpl_append_own rfl (.tmp 73) (.tmp 77) 35 rfl Try.underlying35 hinfo_rheld rfl (by decide) vl _ rfl rfl (H.out.2.2.1.same (((Upd.refl _ _).drewN nq).alloc _)) (Rdr.box _ [.int .u32 n, .int .i64 id] _ _ _ rfl 2 rfl) (by simp; exact ⟨rfl, rfl⟩) (by have := HB.out; simp; omega) s.ls.length 1 (held_length _) rfl (by have := HLEN.out; omega) (by have := HLEN.out; omega) ?_; intro v3 w3 hf3 hu3 hr3; obtain ⟨zA, zn, zc, rfl, -⟩ := Own.open_ hf3; have hc3 := (H.out.2.1.upd (((Upd.refl (fun _ => False) _).drewN nq).alloc _) (fun h => h)).upd hu3 (fun e => (H.out.2.2.2.2.1 q e).1 rfl); have d33 := hc3.1.2.2.2.1; have d30 := hc3.1.1; have f33 := hc3.2 3 (by decide); have hu30 := Same.then (((Upd.refl (fun _ => False) W).drewN nq).alloc _) hu3; have HF3 := Lib.hid hf3; have HU3 := Lib.hid hu30; have HR3 := Lib.hid hr3; clear hf3 hu3 hr3 hc3 hu30)
  obtain ⟨r1, r2, r3⟩ := RWinV.setl (ls' := s.ls ++ [(n, id)]) H.out (by rw [List.flatMap_append]; simpa [heldC] using HF3.out) HU3.out (fun k hk => (HR3.out k hk).imp (fun h => h) fun e => by simp at e; omega)
  have hR : RGrew base (rfoot q vl vt) W q (w3.setCell ⟨q, 3, none⟩ (.slice zA zn zc)) { s with ls := s.ls ++ [(n, id)] } := RGrew.mk r2 r1 r3
  have hz4 := r2.size
  have hz0 := HLEN.out
  generalize hw4 : w3.setCell ⟨q, 3, none⟩ (.slice zA zn zc) = w4 at r1 hR hz4 ⊢
  refine (rfind_any r1 (by simp; omega) s.nx).mono ?_
  rintro r w5 ⟨rfl, rfl⟩
  have HR : Hid (RComeR base (rfoot q vl vt) W q fin (s.ls.length + 1) (.int .i64 (idxOf s.nx (s.ls ++ [(n, id)]))) w4) := Lib.hid ⟨_, hR, HOKN.out, by simpa using HDM.out, by have := HLEN.out; simp; omega, by simp, rfl⟩
  generalize idxOf s.nx (s.ls ++ [(n, id)]) = I0 at HR ⊢
  clear r1 r2 r3 hR hw4 HF3 HU3 HR3 d33 d30 f33 HOKN HDM HFD c0 c1 c2 c3 c4 g1 g2 g3 b1 b2 b3
  go_wp2_with fail
  go_loopg [11] (s.ls.length + 1) (fun g v11 wr => RComeR base (rfoot q vl vt) W q fin g v11 wr)
  case atStart => exact HR.out
  case round =>
    obtain ⟨s', ⟨F', ⟨ul, ut, hV, hF, hFt⟩, st⟩, hok', hd, hl, hg, hv11⟩ := hrel
    by_cases hi : 0 ≤ idxOf s'.nx s'.ls
    · obtain ⟨hi1, hi2⟩ := idxOf_lt _ _ hi
      have hds : WSt.drain ((s'.told (idxOf s'.nx s'.ls).toNat).ls.length + 1) (s'.told (idxOf s'.nx s'.ls).toNat) = fin := by rw [told_len _ _ hi1, ← drain_step _ _ hi]; exact hd
      have hokt := hok'.told hi
      have htt := told_tot s' _ hi1
      have htl := told_len s' _ hi1
      generalize (idxOf s'.nx s'.ls).toNat = i at hi1 hi2 hds hokt htt htl
      rw [hi2] at hv11
      subst hv11
      obtain ⟨A, m, cap, rfl, h1, h2, h3⟩ := hV.2.2.1.open_
      rw [held_length] at h1
      obtain rfl : s'.ls.length = m := by omega
      have hat := hV.2.2.1.rdr
      obtain ⟨b, off, rfl, x0, x1⟩ := HeldAt.at_ hat i hi1
      have hid : (s'.ls[i]'hi1).2 = (s'.ls.getD i (0, 0)).2 := by rw [List.getD_eq_getElem?_getD, List.getElem?_eq_getElem hi1]; rfl
      rw [hid] at x1
      obtain ⟨⟨m0, m1, m2, m3, m4⟩, mf⟩ := hV.2.1
      have f0 := mf 0 (by decide)
      have f2 := mf 2 (by decide)
      have f3 := mf 3 (by decide)
      have f4 := mf 4 (by decide)
      have hbr : base ≤ wr.heap.size := Nat.le_trans HB.out st.1.size
      obtain ⟨I2, hI2⟩ : ∃ I2, I2 = (s'.ls.getD i (0, 0)).2 := ⟨_, rfl⟩
      rw [← hI2] at x1
      have g1 : (0 : Int) ≤ (i : Int) := by omega
      have g3 : (i : Int) < (s'.ls.length : Int) := by omega
      have g4 : (i : Int) ≤ 100000 := by omega
      have g5 : IntKind.i64.wrap ((i : Int) + 1) = (i : Int) + 1 := by rw [IntKind.wrap_i64]; omega
      have hqr := hV.2.1.lt
      have htlen : s'.ts.length ≤ 100000 := by omega
      have hblt : b < wr.heap.size := cell_below x1
      have HF := Lib.hid hF
      have HHI := Lib.hid hi1
      have HST := Lib.hid st
      have HD := Lib.hid (And.intro hds (And.intro hokt (And.intro htt htl)))
      have HL := Lib.hid (And.intro hl hg)
      have HI2 := Lib.hid hI2
      have HOK := Lib.hid hok'
      have HV := Lib.hid hV
      have HC := Lib.hid (And.intro h2 h3)
      clear hds hokt htt htl hl hg hF st hd hi hi2 hi1 hat x0 h1 h2 h3 hid hI2 hok' hV hFt mf m0 m1 m2
      go_upto_region 18 with (fail)
      go_cut [11] from 87 to 146 (fun v11 wx => v11 = .int .i64 i ∧ RMid base wr q (.slice (some ⟨b, off, none⟩) s'.ls.length cap) ut { s' with ts := s'.ts ++ [(I2, false)] } wx)
      case first =>
        go_region_law (first
          | (refine step_append_own rfl (.tmp 99) (.tmp 109) 36 rfl Try.underlying36 hinfo_told rfl (by decide) ut _ rfl rfl (HV.out.2.2.2.1.same (((Upd.refl _ _).alloc _).drew)) ((Rdr.box wr [.int .i64 I2, .bool false] _ _ _ rfl 2 rfl).same (Upd.refl _ _).drew) (by simp; exact ⟨rfl, rfl⟩) (by simp; omega) s'.ts.length 1 (told_length _) rfl (by omega) (by omega) ?_; intro v6 w6 hf6 hu6 hr6; obtain ⟨zA, zn, zc, rfl, -⟩ := Own.open_ hf6; have hc6 := (HV.out.2.1.upd (((Upd.refl (fun _ => False) wr).alloc _).drew) (fun h => h)).upd hu6 (fun e => HV.out.2.2.2.2.2 q e rfl); have d64 := hc6.1.2.2.2.2; have f64 := hc6.2 4 (by decide); have hu60 := Same.then (((Upd.refl (fun _ => False) wr).alloc _).drew) hu6; have HF6 := Lib.hid hf6; have HU6 := Lib.hid hu60; have HR6 := Lib.hid hr6; clear hf6 hu6 hr6 hc6 hu60))
        all_goals
          go_wp2_with fail
          go_meet
          exact ⟨rfl, _, RWinV.sett (ts' := s'.ts ++ [(I2, false)]) HV.out (by rw [List.flatMap_append]; simpa [toldC] using HF6.out) HU6.out (fun k hk => (HR6.out k hk).imp (fun h => h) fun e => by simp at e; omega)⟩
      case rest =>
        obtain ⟨rfl, vt7, r1, r2, r3⟩ := hcut
        have hz7 := r2.size
        have hcc := HC.out
        have hh2 := HHI.out
        have rL : Own base wc (.slice (some ⟨b, off, none⟩) s'.ls.length cap) 2 (s'.ls.flatMap heldC) := r1.2.2.1
        have hfr := Own.front rL i (by omega)
        have hbk := Rdr.back (Own.rdr rL) (i + 1) (by omega)
        rw [held_take] at hfr
        rw [held_drop] at hbk
        have hb7 : base ≤ wc.heap.size := by omega
        have hq7 := r1.2.1.lt
        obtain ⟨⟨m0, m1, m2, m3, m4⟩, mf⟩ := r1.2.1
        have HFR := Lib.hid hfr.rdr
        have HR1 := Lib.hid r1
        have HR2 := Lib.hid r2
        have HR3 := Lib.hid r3
        obtain ⟨⟨o1, o2⟩, ⟨o3, o4⟩, ⟨o5, o6⟩, -⟩ := HOK.out
        have g7 : i + 1 ≤ s'.ls.length := by omega
        have g8 : (i : Int) + 1 ≤ (s'.ls.length : Int) := by omega
        have g9 : i + 1 ≤ cap := by omega
        have g10 : i ≤ cap := by omega
        have g11 : (i : Int) ≤ (s'.ls.length : Int) := by omega
        have g12 : s'.ls.length ≤ 100000 := by have := HL.out.1; omega
        have g13 : (0 : Int) ≤ (i : Int) + 1 := by omega
        clear r1 r2 r3 hcc hh2 hfr rL mf m1 m4 HV m3
        have m3 := HR1.out.2.1.1.2.2.2.1
        by_cases hck : cap = i + 1
        · have hl1 : s'.ls.length = i + 1 := by have := HC.out.1; have := HHI.out; omega
          rw [if_pos hck] at hbk
          have HBK : Hid (Rdr wc (.slice (some ⟨b, off, none⟩) 0 0) 2 ((s'.ls.drop (i + 1)).flatMap heldC)) := Lib.hid (by simpa [hl1, hck] using hbk)
          clear hbk
          subst hck
          go_wp2_with (first
            | (at_builtin; refine wpl_append_own rfl (.tmp 113) (.tmp 119) 35 rfl Try.underlying35 hinfo_rheld rfl (by decide) (.slice none 0 0) _ rfl rfl (Own.nil base _ 2) HFR.out (held_one _) hb7 0 i rfl (by rw [held_length, List.length_take]; have := HHI.out; omega) (by omega) (by omega) ?_; intro v8 w8 hf8 hu8 hr8; obtain ⟨yA, yn, yc, rfl, -⟩ := Own.open_ hf8; have hs8 : Same wc w8 := hu8.mono (fun k _ e => by simp [room] at e); have n0 := hs8.cell m0 (fun h => h); have n2 := hs8.cell m2 (fun h => h); have n3 := hs8.cell m3 (fun h => h); have HF8 := Lib.hid hf8; have HS8 := Lib.hid hs8; have HR8 := Lib.hid hr8; have hz8 := hs8.size; clear hf8 hu8 hr8 hs8)
            | (at_builtin; refine wpl_append_own rfl (.tmp 122) (.tmp 129) 35 rfl Try.underlying35 hinfo_rheld rfl (by decide) (.slice yA yn yc) _ rfl rfl HF8.out (HBK.out.same HS8.out) (held_one _) (by omega) i (s'.ls.length - (i + 1)) (by rw [List.nil_append, held_length, List.length_take]; have := HHI.out; omega) (by rw [held_length, List.length_drop]) (by omega) (by omega) ?_; intro v9 w9 hf9 hu9 hr9; obtain ⟨xA, xn, xc, rfl, -⟩ := Own.open_ hf9; have hc9 := ((HR1.out.2.1.upd HS8.out (fun h => h)).upd hu9 (fun e => room_new HR8.out hq7 e)); obtain ⟨⟨e0, e1, e2, e3, e4⟩, ef⟩ := hc9; have ef0 := ef 0 (by decide); have ef2 := ef 2 (by decide); have ef3 := ef 3 (by decide); have HF9 := Lib.hid hf9; have HU9 := Lib.hid hu9; have HR9 := Lib.hid hr9; clear hf9 hu9 hr9 e1 e4 ef))
          have hg9 := rtold_end HR1.out HI2.out (w2 := w9) (v' := .slice xA xn xc) (by unfold HeldOwn; rw [List.flatMap_append]; simpa using HF9.out) (Same.trans' HS8.out HR8.out HU9.out) (room_more HS8.out HR8.out HR9.out)
          generalize ((w9.setCell ⟨q, 3, none⟩ (.slice xA xn xc)).setCell ⟨q, 2, none⟩ (.int .i64 (s'.bz + 1))).setCell ⟨q, 0, none⟩ (.int .u32 ((s'.nx + 1) % 4294967296)) = wz at hg9 ⊢
          obtain ⟨F9, ⟨ul9, ut9, hV9, hF9, hFt9⟩, st9⟩ := hg9
          have hst := HST.out.trans (RStep.mono_l (Step.trans ⟨HR2.out, HR3.out⟩ st9) HF.out)
          have HR9 := Lib.hid (⟨F9, ⟨ul9, ut9, hV9, hF9, hFt9⟩, hst⟩ : RGrew base (rfoot q vl vt) W q wz (s'.told i))
          have hfd := rfind_any hV9 (by have := HD.out.2.2.1; have := HL.out.1; omega) ((s'.nx + 1) % 4294967296)
          obtain ⟨I9, hI9⟩ : ∃ I9, idxOf ((s'.nx + 1) % 4294967296) (s'.told i).ls = I9 := ⟨_, rfl⟩
          rw [hI9] at hfd
          have HI9 := Lib.hid hI9
          have HFD := Lib.hid hfd
          clear hV9 hF9 hFt9 st9 hst hfd hI9
          refine HFD.out.mono ?_
          rintro r wy ⟨rfl, rfl⟩
          go_wp2_with fail
          go_roundg (s'.told i).ls.length
          case measure => have := HD.out.2.2.2; have := HL.out.2; omega
          case rel => exact ⟨s'.told i, HR9.out, HD.out.2.1, HD.out.1, by have := HD.out.2.2.1; have := HL.out.1; omega, Nat.le_refl _, by rw [← HI9.out]; rfl⟩
        · rw [if_neg hck] at hbk
          have HBK := Lib.hid hbk
          clear hbk
          go_wp2_with (first
            | (at_builtin; refine wpl_append_own rfl (.tmp 113) (.tmp 119) 35 rfl Try.underlying35 hinfo_rheld rfl (by decide) (.slice none 0 0) _ rfl rfl (Own.nil base _ 2) HFR.out (held_one _) hb7 0 i rfl (by rw [held_length, List.length_take]; have := HHI.out; omega) (by omega) (by omega) ?_; intro v8 w8 hf8 hu8 hr8; obtain ⟨yA, yn, yc, rfl, -⟩ := Own.open_ hf8; have hs8 : Same wc w8 := hu8.mono (fun k _ e => by simp [room] at e); have n0 := hs8.cell m0 (fun h => h); have n2 := hs8.cell m2 (fun h => h); have n3 := hs8.cell m3 (fun h => h); have HF8 := Lib.hid hf8; have HS8 := Lib.hid hs8; have HR8 := Lib.hid hr8; have hz8 := hs8.size; clear hf8 hu8 hr8 hs8)
            | (at_builtin; refine wpl_append_own rfl (.tmp 122) (.tmp 129) 35 rfl Try.underlying35 hinfo_rheld rfl (by decide) (.slice yA yn yc) _ rfl rfl HF8.out (HBK.out.same HS8.out) (held_one _) (by omega) i (s'.ls.length - (i + 1)) (by rw [List.nil_append, held_length, List.length_take]; have := HHI.out; omega) (by rw [held_length, List.length_drop]) (by omega) (by omega) ?_; intro v9 w9 hf9 hu9 hr9; obtain ⟨xA, xn, xc, rfl, -⟩ := Own.open_ hf9; have hc9 := ((HR1.out.2.1.upd HS8.out (fun h => h)).upd hu9 (fun e => room_new HR8.out hq7 e)); obtain ⟨⟨e0, e1, e2, e3, e4⟩, ef⟩ := hc9; have ef0 := ef 0 (by decide); have ef2 := ef 2 (by decide); have ef3 := ef 3 (by decide); have HF9 := Lib.hid hf9; have HU9 := Lib.hid hu9; have HR9 := Lib.hid hr9; clear hf9 hu9 hr9 e1 e4 ef))
          have hg9 := rtold_end HR1.out HI2.out (w2 := w9) (v' := .slice xA xn xc) (by unfold HeldOwn; rw [List.flatMap_append]; simpa using HF9.out) (Same.trans' HS8.out HR8.out HU9.out) (room_more HS8.out HR8.out HR9.out)
          generalize ((w9.setCell ⟨q, 3, none⟩ (.slice xA xn xc)).setCell ⟨q, 2, none⟩ (.int .i64 (s'.bz + 1))).setCell ⟨q, 0, none⟩ (.int .u32 ((s'.nx + 1) % 4294967296)) = wz at hg9 ⊢
          obtain ⟨F9, ⟨ul9, ut9, hV9, hF9, hFt9⟩, st9⟩ := hg9
          have hst := HST.out.trans (RStep.mono_l (Step.trans ⟨HR2.out, HR3.out⟩ st9) HF.out)
          have HR9 := Lib.hid (⟨F9, ⟨ul9, ut9, hV9, hF9, hFt9⟩, hst⟩ : RGrew base (rfoot q vl vt) W q wz (s'.told i))
          have hfd := rfind_any hV9 (by have := HD.out.2.2.1; have := HL.out.1; omega) ((s'.nx + 1) % 4294967296)
          obtain ⟨I9, hI9⟩ : ∃ I9, idxOf ((s'.nx + 1) % 4294967296) (s'.told i).ls = I9 := ⟨_, rfl⟩
          rw [hI9] at hfd
          have HI9 := Lib.hid hI9
          have HFD := Lib.hid hfd
          clear hV9 hF9 hFt9 st9 hst hfd hI9
          refine HFD.out.mono ?_
          rintro r wy ⟨rfl, rfl⟩
          go_wp2_with fail
          go_roundg (s'.told i).ls.length
          case measure => have := HD.out.2.2.2; have := HL.out.2; omega
          case rel => exact ⟨s'.told i, HR9.out, HD.out.2.1, HD.out.1, by have := HD.out.2.2.1; have := HL.out.1; omega, Nat.le_refl _, by rw [← HI9.out]; rfl⟩
    · rw [drain_end _ _ hi] at hd
      subst hd
      have hneg : idxOf s'.nx s'.ls < 0 := by omega
      have HST := Lib.hid st
      have HV := Lib.hid (⟨ul, ut, hV, hF, hFt⟩ : RWinO base F' wr q s')
      subst hv11
      clear hV hF hFt st hi hok' hl hg
      go_wp2_with fail
      go_ret
      exact ⟨rfl, F', HV.out, HST.out⟩
end
end Go.Proofs.Ytjfcdinobhmmeaa
