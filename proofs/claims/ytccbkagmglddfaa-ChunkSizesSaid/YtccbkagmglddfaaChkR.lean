/- chunk.read. -/
import Derived.Test.YtccbkagmglddfaaChkW
import Derived.Test.YtccbkagmglddfaaChkB
import Derived.Test.YtccbkagmglddfaaGb
import Derived.Test.YtccbkagmglddfaaBoxC
import Derived.Deep.CutRange
import Derived.Deep.CutBlock
import Derived.Deep.Cut
import Derived.Deep.DeepCutAuto
namespace Go.Proofs.Ytccbkagmglddfaa
open Go.RowKit
set_option linter.unusedVariables false
set_option linter.unusedSimpArgs false
set_option maxRecDepth 100000
set_option maxHeartbeats 4000000
theorem rnL_le (bs : List UInt8) (e size : Int) : (rnL bs e size).length ≤ bs.length := by unfold rnL; split <;> simp
theorem rbL_le (bs : List UInt8) (e size : Int) : (rbL bs e size).length ≤ bs.length := by
  unfold rbL
  split
  · exact Nat.le_refl _
  · split <;> simp
theorem q_le (p : List UInt8) : (q1L p).length ≤ p.length ∧ (q2L p).length ≤ p.length ∧ (q3L p).length ≤ p.length ∧ (q4L p).length ≤ p.length ∧ (q5L p).length ≤ p.length ∧ (q6L p).length ≤ p.length := by
  have a1 : (q1L p).length ≤ p.length := rnL_le _ _ _
  have a2 : (q2L p).length ≤ (q1L p).length := rnL_le _ _ _
  have a3 : (q3L p).length ≤ (q2L p).length := rnL_le _ _ _
  have a4 : (q4L p).length ≤ (q3L p).length := rnL_le _ _ _
  have a5 : (q5L p).length ≤ (q4L p).length := rbL_le _ _ _
  have a6 : (q6L p).length ≤ (q5L p).length := rnL_le _ _ _
  omega
theorem wrap_i64 (n : Int) : -9223372036854775808 ≤ wrap64 n ∧ wrap64 n ≤ 9223372036854775807 := by unfold wrap64; omega
theorem id_range (p : List UInt8) : -9223372036854775808 ≤ idP p ∧ idP p ≤ 9223372036854775807 := by
  unfold idP rnN
  split
  · exact wrap_i64 _
  · omega
section
variable {base : Nat} {wr : World} {P : Nat} {bs : List UInt8} {er : Int}
/-- A reader at block P. -/
def RS (base : Nat) (wr : World) (P : Nat) (bs : List UInt8) (er : Int) : Prop := ∃ v, WObj base wr P v bs er
theorem RS.lt (h : RS base wr P bs er) : base ≤ P ∧ P < wr.heap.size := by
  obtain ⟨v, ho⟩ := h
  exact ⟨ho.1, ho.2.1.lt⟩
theorem RS.same {w' : World} (h : RS base wr P bs er) (hs : Same wr w') : RS base w' P bs er := by
  obtain ⟨v, ho⟩ := h
  exact ⟨v, ho.upd hs (fun _ _ e => e)⟩
theorem RS.num (h : RS base wr P bs er) (s : Int) (hl : bs.length ≤ 140737488355328) (hs : 0 ≤ s ∧ s ≤ 8) :
    Calls Try.prog 57 #[.pointer (some ⟨P, 0, none⟩), .int .i64 s] wr fun r w' => r = .returned (.int .i64 (rnN bs er s)) ∧ RS base w' P (rnL bs er s) (rnE er s bs.length) ∧ Upd (fun k => k = P) wr w' := by
  obtain ⟨v, ho⟩ := h
  refine (rnum_any P v bs er s wr ho hl (by omega) (by omega)).mono ?_
  rintro r w' ⟨rfl, v', h1, h2, -⟩
  exact ⟨rfl, ⟨v', h1⟩, h2⟩
theorem RS.rnum (h : RS base wr P bs er) (s : Int) (hl : bs.length ≤ 140737488355328) (hs : 0 ≤ s ∧ s ≤ 8) :
    Calls Try.prog 49 #[.pointer (some ⟨P, 0, none⟩), .int .i64 s] wr fun r w' => r = .returned (.int .i64 (rnN bs er s)) ∧ RS base w' P (rnL bs er s) (rnE er s bs.length) ∧ Upd (fun k => k = P) wr w' := by
  obtain ⟨v, ho⟩ := h
  refine (rrnum_any P v bs er s wr ho hl (by omega) (by omega)).mono ?_
  rintro r w' ⟨rfl, v', h1, h2, -⟩
  exact ⟨rfl, ⟨v', h1⟩, h2⟩
theorem RS.bytes (h : RS base wr P bs er) (hb : base ≤ wr.heap.size) (hl : bs.length ≤ 140737488351232) :
    Calls Try.prog 58 #[.pointer (some ⟨P, 0, none⟩), .int .i64 2] wr fun r w' => ∃ A n c, r = .returned (.slice A n c) ∧ Fresh wr.heap.size w' (.slice A n c) (rbP bs er 2) ∧ RS base w' P (rbL bs er 2) (rbE bs er 2) ∧ Upd (fun k => k = P) wr w' := by
  obtain ⟨v, ho⟩ := h
  refine (rbytes_any P v bs er 2 wr ho hb hl (by omega) (by omega)).mono ?_
  rintro r w' ⟨u, rfl, hf, v', h1, h2, -⟩
  obtain ⟨A, n, c, rfl⟩ := Fresh.shape hf
  exact ⟨A, n, c, rfl, hf, ⟨v', h1⟩, h2⟩
theorem RS.end_ (h : RS base wr P bs er) :
    Calls Try.prog 59 #[.pointer (some ⟨P, 0, none⟩)] wr fun r w' => r = .returned (.int .i64 (reE er bs.length)) ∧ wr = w' := by
  obtain ⟨v, ho⟩ := h
  exact rend_any P v bs er wr ho
theorem RS.rend (h : RS base wr P bs er) :
    Calls Try.prog 51 #[.pointer (some ⟨P, 0, none⟩)] wr fun r w' => r = .returned (.int .i64 (reE er bs.length)) ∧ wr = w' := by
  obtain ⟨v, ho⟩ := h
  exact rrend_any P v bs er wr ho
end
theorem RS.new (A : Option Addr) (n cap : Nat) (p : List UInt8) (w wr : World) (h : Bs wr (.slice A n cap) p) (hl : p.length ≤ 140737488351232) (base : Nat) (hb : base ≤ wr.heap.size) :
    Calls Try.prog 56 #[.slice A n cap] wr fun r w' => ∃ P, r = .returned (.pointer (some ⟨P, 0, none⟩)) ∧ RS base w' P p 0 ∧ Same wr w' := by
  refine (newReader_any _ p wr h (by omega)).mono ?_
  rintro r w' ⟨P, v', rfl, ho, hs⟩
  exact ⟨P, rfl, ⟨v', Nat.le_trans hb ho.1, ho.2.1, Fresh.mono ho.2.2.1 hb, ho.2.2.2⟩, hs⟩
theorem readE_cases (p : List UInt8) : (q7E p ≠ 0 ∧ readE p = q7E p) ∨ (q7E p = 0 ∧ ownP p ≠ u32v (crcSum (p.take (p.length - 4))) ∧ readE p = 12) ∨ (q7E p = 0 ∧ ownP p = u32v (crcSum (p.take (p.length - 4))) ∧ badP p ∧ readE p = 1) ∨ (q7E p = 0 ∧ ownP p = u32v (crcSum (p.take (p.length - 4))) ∧ ¬ badP p ∧ readE p = 0) := by
  unfold readE
  by_cases h1 : q7E p = 0
  · rw [if_neg (by rw [h1]; simp)]
    by_cases h2 : ownP p = u32v (crcSum (p.take (p.length - 4)))
    · rw [if_neg (by rw [h2]; simp)]
      by_cases h3 : badP p
      · rw [if_pos h3]; exact .inr (.inr (.inl ⟨h1, h2, h3, rfl⟩))
      · rw [if_neg h3]; exact .inr (.inr (.inr ⟨h1, h2, h3, rfl⟩))
    · rw [if_pos h2]; exact .inr (.inl ⟨h1, h2, rfl⟩)
  · rw [if_pos h1]; exact .inl ⟨h1, rfl⟩
theorem Bs.capN {w : World} {A : Option Addr} {n cap : Nat} {bs : List UInt8} (h : Bs w (.slice A n cap) bs) : n = bs.length ∧ bs.length ≤ cap ∧ cap ≤ 9223372036854775807 := by
  obtain ⟨_, _, e, h1, h2, _⟩ := h
  injection e with _ e2 e3
  subst e3
  exact ⟨e2, h1, h2⟩
theorem read_any (A : Option Addr) (cap : Nat) (p : List UInt8) (w : World) (h : Bs w (.slice A p.length cap) p) (hl : p.length ≤ 140737488351232) :
    Calls Try.prog 36 #[.slice A p.length cap] w fun e w' => ∃ B n c, e = .returned (.tuple #[.agg #[.int .i64 (idP p), .int .i64 (kP p), .int .i64 (nP p), .int .u32 (sP p)], .slice B n c, .int .i64 (readE p)]) ∧ Fresh w.heap.size w' (.slice B n c) (bP p) ∧ Same w w' := by
  have hbd : ∀ (i k n s : Int) W, (Instr.build 81 #[(0, .int .i64 i), (1, .int .i64 k), (2, .int .i64 n), (3, .int .u32 s)]).run Try.prog W = .ok (.agg #[.int .i64 i, .int .i64 k, .int .i64 n, .int .u32 s]) W := fun i k n s W => run_build W _ _ _ (by kernel_rfl)
  have HBD := Lib.hid hbd
  have HH := Lib.hid h
  have HQ := Lib.hid (q_le p)
  have HL := Lib.hid hl
  obtain ⟨L, hL⟩ : ∃ L, L = p.length := ⟨_, rfl⟩
  rw [← hL] at HH HL hl ⊢
  have HLL := Lib.hid hL
  clear h hbd hL
  go_enter Try.func36, Try.ntmps36
  go_upto_region 1 with (fail)
  have hb0 := BoxC.newAt w [.int .i64 0, .int .i64 0, .int .i64 0, .int .u32 0] 81 w.heap.size rfl
  have hs0 : Same w (w.alloc (.cells #[.int .i64 0, .int .i64 0, .int .i64 0, .int .u32 0] 81)) := (Upd.refl _ w).alloc _
  have hz0 : w.heap.size + 1 ≤ (w.alloc (.cells #[.int .i64 0, .int .i64 0, .int .i64 0, .int .u32 0] 81)).heap.size := by simp
  simp only [List.toArray] at hb0
  generalize w.alloc (.cells #[.int .i64 0, .int .i64 0, .int .i64 0, .int .u32 0] 81) = w0 at hb0 hs0 hz0 ⊢
  have HB0 := Lib.hid hb0
  have HS0 := Lib.hid hs0
  have HZ0 := Lib.hid hz0
  clear hb0 hs0 hz0
  go_wp2_with fail
  refine (RS.new A L cap p w w0 (HH.out.same HS0.out) (by rw [← HLL.out]; exact HL.out) (w.heap.size + 1) HZ0.out).mono ?_
  rintro e w1 ⟨P, rfl, hr1, hs1⟩
  have HR1 := Lib.hid hr1
  have HS1 := Lib.hid (Same.trans HS0.out hs1)
  have HB1 := Lib.hid (HB0.out.upd (by simp) hs1 id)
  clear hr1 hs1
  go_wp2_with fail
  refine (HR1.out.num 8 (by have := HL.out; have := HLL.out; omega) (by decide)).mono ?_
  rintro e w2 ⟨rfl, hr2, hu2⟩
  have HR2 := Lib.hid (show RS (w.heap.size + 1) w2 P (q1L p) (q1E p) from hr2)
  have HU2 := Lib.hid hu2
  rw [show rnN p 0 8 = idP p from rfl]
  clear hr2 hu2
  go_wp2_with fail
  refine (HR2.out.num 2 (by have := HL.out; have := HLL.out; have := HQ.out.1; omega) (by decide)).mono ?_
  rintro e w3 ⟨rfl, hr3, hu3⟩
  have HR3 := Lib.hid (show RS (w.heap.size + 1) w3 P (q2L p) (q2E p) from hr3)
  have HU3 := Lib.hid (Upd.trans HU2.out hu3 (fun _ _ e => e))
  rw [show rnN (q1L p) (q1E p) 2 = kP p from rfl]
  clear hr3 hu3
  go_wp2_with fail
  refine (HR3.out.num 2 (by have := HL.out; have := HLL.out; have := HQ.out.2.1; omega) (by decide)).mono ?_
  rintro e w4 ⟨rfl, hr4, hu4⟩
  have HR4 := Lib.hid (show RS (w.heap.size + 1) w4 P (q3L p) (q3E p) from hr4)
  have HU4 := Lib.hid (Upd.trans HU3.out hu4 (fun _ _ e => e))
  rw [show rnN (q2L p) (q2E p) 2 = nP p from rfl]
  clear hr4 hu4
  go_wp2_with fail
  refine (HR4.out.num 4 (by have := HL.out; have := HLL.out; have := HQ.out.2.2.1; omega) (by decide)).mono ?_
  rintro e w5 ⟨rfl, hr5, hu5⟩
  have HR5 := Lib.hid (show RS (w.heap.size + 1) w5 P (q4L p) (q4E p) from hr5)
  have HU5 := Lib.hid (Upd.trans HU4.out hu5 (fun _ _ e => e))
  rw [show rnN (q3L p) (q3E p) 4 = sP p from rfl]
  have hsr := s_range p
  have HSR := Lib.hid hsr
  have HIR := Lib.hid (id_range p)
  have HKR := Lib.hid (k_range p)
  have HNR := Lib.hid (n_range p)
  have hwS : IntKind.u32.wrap (sP p) = sP p := by rw [IntKind.wrap_u32]; omega
  have hbx := fun W => HBD.out (idP p) (kP p) (nP p) (sP p) W
  obtain ⟨i, hi⟩ : ∃ i, i = idP p := ⟨_, rfl⟩
  obtain ⟨k, hk⟩ : ∃ i, i = kP p := ⟨_, rfl⟩
  obtain ⟨n, hn⟩ : ∃ i, i = nP p := ⟨_, rfl⟩
  obtain ⟨s, hs⟩ : ∃ i, i = sP p := ⟨_, rfl⟩
  rw [← hi, ← hk, ← hn, ← hs] at hbx ⊢
  rw [← hs] at hwS hsr
  have HV := Lib.hid (And.intro hi (And.intro hk (And.intro hn hs)))
  clear hr5 hu5 hi hk hn hs
  go_upto_region 3 with (fail)
  have hb6 := BoxC.newAt w5 [.int .i64 i, .int .i64 k, .int .i64 n, .int .u32 s] 81 w5.heap.size rfl
  have hal : Same w5 (w5.alloc (.cells #[.int .i64 i, .int .i64 k, .int .i64 n, .int .u32 s] 81)) := (Upd.refl _ w5).alloc _
  have hz6 : w5.heap.size < (w5.alloc (.cells #[.int .i64 i, .int .i64 k, .int .i64 n, .int .u32 s] 81)).heap.size := by simp
  simp only [List.toArray] at hb6
  generalize w5.alloc (.cells #[.int .i64 i, .int .i64 k, .int .i64 n, .int .u32 s] 81) = w6 at hb6 hal hz6 ⊢
  have hP := HR5.out.lt
  have hpb : P < w5.heap.size := hP.2
  have hpb2 : w.heap.size + 1 ≤ P := hP.1
  have hU := Same.trans HU5.out hal
  have HR6 := Lib.hid (HR5.out.same hal)
  have HS6 := Lib.hid (Same.into HS1.out hU (fun j hj => by omega))
  have HB2 := Lib.hid (HB1.out.upd (by simp) hU (by omega))
  have HSZ5 := Lib.hid hal.size
  generalize w5.heap.size = B6 at hb6 hpb hz6 HSZ5 ⊢
  have HB6 := Lib.hid hb6
  clear hb6 hal hP hU hbx hwS HR1 HR2 HR3 HR4 HR5 HU2 HU3 HU4 HU5 HB0 HB1 HS0 HS1 HZ0
  go_wp2_with fail
  refine (HR6.out.bytes (by have := HS6.out.size; omega) (by have := HL.out; have := HLL.out; have := HQ.out.2.2.2.1; omega)).mono ?_
  rintro e w7 ⟨A7, n7, c7, rfl, hf7, hr7, hu7⟩
  have HR7 := Lib.hid (show RS (w.heap.size + 1) w7 P (q5L p) (q5E p) from hr7)
  have HF7 := Lib.hid (show Fresh w6.heap.size w7 (.slice A7 n7 c7) (bP p) from hf7)
  have HU7 := Lib.hid hu7
  clear hf7 hr7 hu7
  go_wp2_with fail
  refine (HR7.out.num 4 (by have := HL.out; have := HLL.out; have := HQ.out.2.2.2.2.1; omega) (by decide)).mono ?_
  rintro e w8 ⟨rfl, hr8, hu8⟩
  have HR8 := Lib.hid (show RS (w.heap.size + 1) w8 P (q6L p) (q6E p) from hr8)
  have HU8 := Lib.hid (Upd.trans HU7.out hu8 (fun _ _ e => e))
  have hf8 := HF7.out.upd hu8 (fun j hj e => by have := (HF7.out.ge j hj).1; omega)
  have hn7 : n7 = (bP p).length := by
    obtain ⟨_, _, _, e, h1, _⟩ := hf8
    injection e with _ e2 _
    subst e2
    simpa using h1.symm
  subst hn7
  have HF8 := Lib.hid hf8
  rw [show rnN (q5L p) (q5E p) 4 = ownP p from rfl]
  have hor := own_range p
  have hwO : IntKind.u32.wrap (ownP p) = ownP p := by rw [IntKind.wrap_u32]; omega
  obtain ⟨o, ho⟩ : ∃ i, i = ownP p := ⟨_, rfl⟩
  rw [← ho] at hwO hor ⊢
  have HO := Lib.hid ho
  clear hr8 hu8 ho hf8
  go_wp2_with fail
  refine HR8.out.end_.mono ?_
  rintro e w9 ⟨rfl, rfl⟩
  rw [show reE (q6E p) (q6L p).length = q7E p from rfl]
  have HB68 := Lib.hid (HB6.out.upd (by simp) HU8.out (by omega))
  have HB28 := Lib.hid (HB2.out.upd (by simp) HU8.out (by omega))
  have HS8 := Lib.hid (Same.into HS6.out HU8.out (fun j hj => by omega))
  obtain ⟨E, hE⟩ : ∃ i, i = q7E p := ⟨_, rfl⟩
  rw [← hE]
  have HE := Lib.hid hE
  obtain ⟨m, hm⟩ : ∃ m, m = (bP p).length := ⟨_, rfl⟩
  rw [← hm] at HF8 ⊢
  have HM := Lib.hid hm
  clear hE hwO hm HR6 HR7 HR8 HU7 HU8 HF7 HB6 HB2 HS6
  go_upto_block 0 with (fail)
  have hcs := readE_cases p
  rw [← HE.out, ← HO.out] at hcs
  obtain ⟨R, hR⟩ : ∃ R, R = readE p := ⟨_, rfl⟩
  rw [← hR] at hcs
  have HR := Lib.hid hR
  have HCS := Lib.hid hcs
  clear hcs hR
  go_cut [9] from 29 (fun v9 wx => v9 = .int .i64 R ∧ w8 = wx)
  case first =>
    rcases HCS.out with ⟨h1, h2⟩ | ⟨h1, h2, h3⟩ | ⟨h1, h2, h3, h4⟩ | ⟨h1, h2, h3, h4⟩
    · have hE2 : (E != 0) = true := by simpa using h1
      have H2 := Lib.hid h2
      clear h1 h2
      go_wp2_with fail
      go_meet
      exact ⟨by rw [H2.out], rfl⟩
    all_goals
      have hLen := (read_ok (HE.out.symm.trans h1)).1
      have hL4 : 4 ≤ L := by rw [HLL.out]; omega
      have hLc := HH.out.capN.2
      have hLc2 : L ≤ cap := by have := HLL.out; omega
      have HSL := Lib.hid ((HH.out.take (L - 4) (by omega)).same HS8.out)
      have hL5 : (4 : Int) ≤ (L : Int) := by omega
      have hL6 : (L : Int) - 4 ≤ (cap : Int) := by omega
      have hL7 : (0 : Int) ≤ (L : Int) - 4 := by omega
      have hL8 : L - 4 ≤ cap := by omega
      rw [← HLL.out] at h2
      subst h1
      clear hLen
    · have hne : (o != u32v (crcSum (p.take (L - 4)))) = true := by simpa using h2
      have H3 := Lib.hid h3
      clear h2 h3
      go_wp2_with fail
      refine (sum_bs _ (p.take (L - 4)) _ HSL.out).mono ?_
      rintro e w9 ⟨rfl, rfl⟩
      go_wp2_with fail
      go_meet
      exact ⟨by rw [H3.out], rfl⟩
    · have hne : (o != u32v (crcSum (p.take (L - 4)))) = false := by simpa using h2
      have H4 := Lib.hid h4
      have H3 : Hid (i < 1 ∨ 1152921504606846976 < i ∨ n < 1 ∨ 256 < n ∨ n ≤ k ∨ 4096 < (m : Int)) := by
        unfold badP at h3
        rw [← HV.out.1, ← HV.out.2.1, ← HV.out.2.2.1, ← HM.out] at h3
        show _ ∨ _
        omega
      have c0 := HB68.out.1 0 _ rfl
      have c1 := HB68.out.1 1 _ rfl
      have c2 := HB68.out.1 2 _ rfl
      clear h2 h3 h4
      go_wp2_with fail
      refine (sum_bs _ (p.take (L - 4)) _ HSL.out).mono ?_
      rintro e w9 ⟨rfl, rfl⟩
      go_wp2_with fail
      all_goals go_meet
      all_goals first
        | (exfalso; have := H3.out; omega)
        | exact ⟨by rw [H4.out], rfl⟩
    · have hne : (o != u32v (crcSum (p.take (L - 4)))) = false := by simpa using h2
      have H4 := Lib.hid h4
      unfold badP at h3
      rw [← HV.out.1, ← HV.out.2.1, ← HV.out.2.2.1, ← HM.out] at h3
      have n1 : ¬ i < 1 := by omega
      have n2 : ¬ 1152921504606846976 < i := by omega
      have n3 : ¬ n < 1 := by omega
      have n4 : ¬ 256 < n := by omega
      have n5 : ¬ n ≤ k := by omega
      have n6 : ¬ 4096 < (m : Int) := by omega
      have c0 := HB68.out.1 0 _ rfl
      have c1 := HB68.out.1 1 _ rfl
      have c2 := HB68.out.1 2 _ rfl
      clear h2 h3 h4
      go_wp2_with fail
      refine (sum_bs _ (p.take (L - 4)) _ HSL.out).mono ?_
      rintro e w9 ⟨rfl, rfl⟩
      go_wp2_with fail
      go_meet
      exact ⟨by rw [H4.out], rfl⟩
  case rest =>
  obtain ⟨rfl, rfl⟩ := hcut
  have c0 := HB68.out.1 0 _ rfl
  have c1 := HB68.out.1 1 _ rfl
  have c2 := HB68.out.1 2 _ rfl
  have c3 := HB68.out.1 3 _ rfl
  have d0 := HB28.out.1 0 _ rfl
  have d1 := HB28.out.1 1 _ rfl
  have d2 := HB28.out.1 2 _ rfl
  have d3 := HB28.out.1 3 _ rfl
  have fz := HB28.out.2
  unfold FzAt at fz
  go_wp2_with fail
  have hbz := (((HB28.out.set 0 (.int .i64 i) (by simp)).set 1 (.int .i64 k) (by simp)).set 2 (.int .i64 n) (by simp)).set 3 (.int .u32 s) (by simp)
  simp only [List.set_cons_zero, List.set_cons_succ] at hbz
  have huz : Upd (fun j => j = w.heap.size) w8 ((((w8.setCell ⟨w.heap.size, 0, none⟩ (.int .i64 i)).setCell ⟨w.heap.size, 1, none⟩ (.int .i64 k)).setCell ⟨w.heap.size, 2, none⟩ (.int .i64 n)).setCell ⟨w.heap.size, 3, none⟩ (.int .u32 s)) :=
    ((((Upd.refl (fun j => j = w.heap.size) w8).setCell (p := ⟨w.heap.size, 0, none⟩) (fun _ => rfl) _).setCell (p := ⟨w.heap.size, 1, none⟩) (fun _ => rfl) _).setCell (p := ⟨w.heap.size, 2, none⟩) (fun _ => rfl) _).setCell (p := ⟨w.heap.size, 3, none⟩) (fun _ => rfl) _
  generalize (((w8.setCell ⟨w.heap.size, 0, none⟩ (.int .i64 i)).setCell ⟨w.heap.size, 1, none⟩ (.int .i64 k)).setCell ⟨w.heap.size, 2, none⟩ (.int .i64 n)).setCell ⟨w.heap.size, 3, none⟩ (.int .u32 s) = wz at hbz huz ⊢
  have z0 := hbz.1 0 _ rfl
  have z1 := hbz.1 1 _ rfl
  have z2 := hbz.1 2 _ rfl
  have z3 := hbz.1 3 _ rfl
  refine bodyPost_ret (v := .tuple #[.agg #[.int .i64 i, .int .i64 k, .int .i64 n, .int .u32 s], .slice A7 m c7, .int .i64 R]) (by simp [results, Try.results36, go_sem, asAddr, Result.andThen, z0, z1, z2, z3]) rfl ?_
  refine ⟨A7, m, c7, by rw [HV.out.1, HV.out.2.1, HV.out.2.2.1, HV.out.2.2.2, HR.out], ?_, Same.into HS8.out huz (fun j hj => by omega)⟩
  exact (HF8.out.upd huz (fun j hj e => by have := (HF8.out.ge j hj).1; omega)).mono (by omega)
end Go.Proofs.Ytccbkagmglddfaa
