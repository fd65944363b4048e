/- chunk.Reader: Add. -/
import Derived.Test.YtccbkagmglddfaaChkP
import Derived.Test.YtccbkagmglddfaaChkR
import Derived.Test.YtccbkagmglddfaaChkS
import Derived.Test.YtccbkagmglddfaaApp0
import Derived.Test.YtccbkagmglddfaaGa
import Derived.BigQuiet
import Derived.WalkSpells
import Derived.Deep.CutRange
import Derived.Deep.CutBlock
import Derived.Deep.Cut
import Derived.Deep.DeepCutAuto
import Derived.Deep.DrawnRows
namespace Go.Proofs.Ytccbkagmglddfaa
open Go.RowKit
set_option linter.unusedVariables false
set_option linter.unusedSimpArgs false
set_option maxRecDepth 100000
set_option maxHeartbeats 8000000
attribute [local go_sem ↓] Go.wp_at_zero Go.wp_at_succ
theorem addE_ways (c : Cs) (p : List UInt8) : (readE p ≠ 0 ∧ c.addE p = readE p) ∨ (readE p = 0 ∧ idP p < c.id ∧ c.addE p = 5) ∨ (readE p = 0 ∧ c.id < idP p ∧ c.addE p = 0) ∨
    (readE p = 0 ∧ idP p = c.id ∧ ((c.l.length : Int) ≠ nP p ∨ c.s ≠ sP p) ∧ c.addE p = 11) ∨ (readE p = 0 ∧ idP p = c.id ∧ (c.l.length : Int) = nP p ∧ c.s = sP p ∧ c.addE p = 0) := by
  unfold Cs.addE
  by_cases h0 : readE p = 0
  · rw [if_neg (by rw [h0]; simp)]
    by_cases h1 : idP p < c.id
    · rw [if_pos h1]; exact .inr (.inl ⟨h0, h1, rfl⟩)
    · rw [if_neg h1]
      by_cases h2 : c.id < idP p
      · rw [if_pos h2]; exact .inr (.inr (.inl ⟨h0, h2, rfl⟩))
      · rw [if_neg h2]
        have h3 : idP p = c.id := by omega
        by_cases h4 : (c.l.length : Int) ≠ nP p ∨ c.s ≠ sP p
        · rw [if_pos h4]; exact .inr (.inr (.inr (.inl ⟨h0, h3, h4, rfl⟩)))
        · rw [if_neg h4]
          rw [not_or, Classical.not_not, Classical.not_not] at h4
          exact .inr (.inr (.inr (.inr ⟨h0, h3, h4.1, h4.2, rfl⟩)))
  · rw [if_pos h0]; exact .inl ⟨h0, rfl⟩
theorem made_nil (N j : Nat) (u : Value) (hj : (List.replicate N (Value.slice none 0 0))[j]? = some u) : (madeCells #[Value.slice none 0 0] N)[j]? = some u := by
  rw [List.getElem?_replicate] at hj
  split at hj
  · rename_i h
    injection hj with hj
    subst hj
    simp [madeCells, h, Nat.mod_one]
  · cases hj
/-- While the switch writes: the reader's cells, the piece's head, its bytes. -/
structure Pre7 (W : World) (p B5 : Nat) (hd : List Value) (vb : Value) (bs : List UInt8) (wv : World) (cs : List Value) : Prop where
  box : BoxC wv p cs
  upd : Upd (fun q => q = p) W wv
  hd : BoxC wv B5 hd
  fr : Fresh W.heap.size wv vb bs
  pW : p < W.heap.size
  BW : W.heap.size ≤ B5
def Row7 (base : Nat) (W wv : World) (b N : Nat) : Prop := W.heap.size ≤ b ∧ Own base wv (.slice (some ⟨b, 0, none⟩) N N) 1 (List.replicate N (.slice none 0 0))
section
variable {W wv : World} {p B5 b N base : Nat} {hd cs : List Value} {vb : Value} {bs : List UInt8}
theorem Pre7.set (h : Pre7 W p B5 hd vb bs wv cs) (hh : 0 < hd.length) (off : Nat) (u : Value) (ho : off < cs.length) : Pre7 W p B5 hd vb bs (wv.setCell ⟨p, off, none⟩ u) (cs.set off u) := by
  have hu : Upd (fun q => q = p) wv (wv.setCell ⟨p, off, none⟩ u) := (Upd.refl (fun q => q = p) wv).setCell (p := ⟨p, off, none⟩) (fun _ => rfl) _
  have := h.pW
  have := h.BW
  exact ⟨h.box.set off u ho, Upd.trans h.upd hu (fun _ _ e => e), h.hd.upd hh hu (by omega), h.fr.upd hu (fun k hk e => by have := (h.fr.ge k hk).1; omega), h.pW, h.BW⟩
theorem Pre7.make (h : Pre7 W p B5 hd vb bs wv cs) (hh : 0 < hd.length) (hc : 0 < cs.length) (o : Obj) : Pre7 W p B5 hd vb bs (wv.alloc o) cs := by
  have hu : Same wv (wv.alloc o) := (Upd.refl (fun _ => False) wv).alloc _
  exact ⟨h.box.upd hc hu id, h.upd.alloc _, h.hd.upd hh hu id, h.fr.same hu, h.pW, h.BW⟩
theorem Row7.new (h : Pre7 W p B5 hd vb bs wv cs) (hb : base ≤ W.heap.size) (hN : N ≤ 256) : Row7 base W (wv.alloc (.cells (madeCells #[.slice none 0 0] N) 22)) wv.heap.size N := by
  have hs := h.upd.size
  exact ⟨hs, Own.lit wv (madeCells #[.slice none 0 0] N) 22 (List.replicate N (.slice none 0 0)) wv.heap.size N N 1 base rfl (by omega) (fun j u hj => made_nil N j u hj) (by simp) (Nat.le_refl _) (by omega) (by simp [madeCells])⟩
theorem Row7.set (h : Row7 base W wv b N) (hp : p < W.heap.size) (off : Nat) (u : Value) : Row7 base W (wv.setCell ⟨p, off, none⟩ u) b N := by
  have hu : Upd (fun q => q = p) wv (wv.setCell ⟨p, off, none⟩ u) := (Upd.refl (fun q => q = p) wv).setCell (p := ⟨p, off, none⟩) (fun _ => rfl) _
  have := h.1
  exact ⟨h.1, h.2.upd hu (fun q hq e => by simp [room] at hq; omega)⟩
end
/-- Behind the switch: the pieces' row is that of the piece's image. -/
def AdS (base : Nat) (W : World) (p : Nat) (vl : Value) (ls : List It) (dn : Int) (d : Cs) (wx : World) : Prop :=
  ∃ vl' ls', ChV base wx p vl' ls' d dn false ∧ Upd (cwr p vl) W wx ∧ (∀ k, cfoot p vl' ls' k → cfoot p vl ls k ∨ W.heap.size ≤ k) ∧ (∀ k, cwr p vl' k → cwr p vl k ∨ W.heap.size ≤ k)
theorem AdS.of {base : Nat} {W : World} {p : Nat} {vl : Value} {ls : List It} {c : Cs} {dn : Int} {B5 b N : Nat} {hd : List Value} {vb : Value} {bs : List UInt8} {wz : World} {i s a : Int} (H : ChV base W p vl ls c dn false)
    (h : Pre7 W p B5 hd vb bs wz (chC ⟨i, s, List.replicate N none, a⟩ (.slice (some ⟨b, 0, none⟩) N N) dn false)) (hr : Row7 base W wz b N) : AdS base W p vl ls dn ⟨i, s, List.replicate N none, a⟩ wz := by
  have hpW := h.pW
  have hbW := hr.1
  refine ⟨.slice (some ⟨b, 0, none⟩) N N, List.replicate N (.slice none 0 0, none), ⟨H.1, h.box, ?_, ?_, fun x hx => ?_, ?_⟩, h.upd.mono (fun q _ e => .inl e), fun q hq => ?_, fun q hq => ?_⟩
  · rw [List.map_replicate]; exact hr.2
  · rw [List.map_replicate]
  · obtain rfl := (List.mem_replicate.1 hx).2
    rfl
  · intro e
    simp [room] at e
    omega
  · rcases hq with rfl | hq | ⟨x, hx, hq⟩
    · exact .inl (.inl rfl)
    · simp [room] at hq
      exact .inr (by omega)
    · obtain rfl := (List.mem_replicate.1 hx).2
      simp [room] at hq
  · rcases hq with rfl | hq
    · exact .inl (.inl rfl)
    · simp [room] at hq
      exact .inr (by omega)
theorem bP_le (p : List UInt8) : (bP p).length ≤ p.length := by
  have h := (q_le p).2.2.2.1
  have h2 : (bP p).length ≤ (q4L p).length := by
    unfold bP rbP
    split
    · simp
    · exact cutP_le _ _
  omega
theorem chshut_any {base : Nat} {W : World} {p : Nat} {vl : Value} {ls : List It} {c : Cs} {dn : Int} (h : ChV base W p vl ls c dn true) (v : Value) :
    Calls Try.prog 12 #[.pointer (some ⟨p, 0, none⟩), v] W fun e w' => e = .returned (.int .i64 5) ∧ W = w' := by
  have c7 := h.2.1.1 7 _ rfl
  go_enter Try.func12, Try.ntmps12
  go_wp2_with fail
  go_ret
  exact ⟨rfl, rfl⟩
theorem chadd_any {base : Nat} {W : World} {p : Nat} {vl : Value} {ls : List It} {c : Cs} {dn : Int} (h : ChV base W p vl ls c dn false) (hb : base ≤ W.heap.size) (hlen : c.l.length ≤ 256) (hadd : 0 ≤ c.added ∧ c.added ≤ 1000000)
    (A : Option Addr) (cap : Nat) (pb : List UInt8) (hp : Bs W (.slice A pb.length cap) pb) (hl : pb.length ≤ 140737488351232) :
    Calls Try.prog 12 #[.pointer (some ⟨p, 0, none⟩), .slice A pb.length cap] W fun e w' => e = .returned (.int .i64 (c.addE pb)) ∧ ChG base W p vl ls w' (c.add pb) dn false := by
  obtain ⟨E, hE⟩ : ∃ E, E = c.addE pb := ⟨_, rfl⟩
  obtain ⟨D, hD⟩ : ∃ D, D = c.add pb := ⟨_, rfl⟩
  rw [← hE, ← hD]
  have hw := addE_ways c pb
  rw [← hE] at hw
  have HE := Lib.hid hE
  have HD := Lib.hid hD
  have HW := Lib.hid hw
  have H := Lib.hid h
  have HB := Lib.hid hb
  have HLEN := Lib.hid hlen
  have HADD := Lib.hid hadd
  have HP := Lib.hid (And.intro hp hl)
  have c7 := h.2.1.1 7 _ rfl
  obtain ⟨L, hL⟩ : ∃ L, L = pb.length := ⟨_, rfl⟩
  rw [← hL]
  have HL := Lib.hid hL
  clear hE hD hw h hb hlen hadd hp hl hL
  go_enter Try.func12, Try.ntmps12
  go_wp2_with fail
  rw [HL.out]
  refine (read_any A cap pb W HP.out.1 HP.out.2).mono ?_
  rintro e w1 ⟨Ab, nb, cb, rfl, hf1, hs1⟩
  rw [← HL.out]
  have hnb : nb = (bP pb).length := by
    obtain ⟨_, _, _, e, h1, _⟩ := hf1
    injection e with _ e2 _
    subst e2
    simpa using h1.symm
  have HR := Lib.hid (And.intro (id_range pb) (And.intro (k_range pb) (And.intro (n_range pb) (s_range pb))))
  have HBAD := Lib.hid (fun h0 : readE pb = 0 => (readE_own h0).2.2)
  obtain ⟨i, hi⟩ : ∃ i, i = idP pb := ⟨_, rfl⟩
  obtain ⟨k, hk⟩ : ∃ i, i = kP pb := ⟨_, rfl⟩
  obtain ⟨n, hn⟩ : ∃ i, i = nP pb := ⟨_, rfl⟩
  obtain ⟨s, hs⟩ : ∃ i, i = sP pb := ⟨_, rfl⟩
  obtain ⟨R, hR⟩ : ∃ i, i = readE pb := ⟨_, rfl⟩
  rw [← hi, ← hk, ← hn, ← hs] at HR ⊢
  rw [← hR]
  rw [← hR, ← hi, ← hn, ← hs] at HW
  have HV := Lib.hid (And.intro hi (And.intro hk (And.intro hn (And.intro hs hR))))
  have HNB := Lib.hid hnb
  clear hi hk hn hs hR hnb
  go_upto_block 1 with (fail)
  have hb5 := BoxC.newAt w1 [.int .i64 i, .int .i64 k, .int .i64 n, .int .u32 s] 81 w1.heap.size rfl
  have hal : Same w1 (w1.alloc (.cells #[.int .i64 i, .int .i64 k, .int .i64 n, .int .u32 s] 81)) := (Upd.refl _ w1).alloc _
  have hz5 : w1.heap.size < (w1.alloc (.cells #[.int .i64 i, .int .i64 k, .int .i64 n, .int .u32 s] 81)).heap.size := by simp
  have hf5 := hf1.same hal
  simp only [List.toArray] at hb5
  generalize w1.alloc (.cells #[.int .i64 i, .int .i64 k, .int .i64 n, .int .u32 s] 81) = w5 at hb5 hal hz5 hf5 ⊢
  have hs5 := Same.trans hs1 hal
  have hB5W := hs1.size
  have hB5r : ∀ j, room (.slice Ab nb cb) = some j → j < w1.heap.size := fun j hj => (hf1.ge j hj).2
  generalize w1.heap.size = B5 at hb5 hz5 hB5W hB5r ⊢
  have HB5 := Lib.hid hb5
  have HS5 := Lib.hid hs5
  have HF5 := Lib.hid hf5
  have HBR := Lib.hid hB5r
  clear hb5 hal hf5 hs5 hf1 hs1 hB5r c7
  obtain ⟨d, hd⟩ : ∃ d, d = c.to pb := ⟨_, rfl⟩
  have HDD := Lib.hid hd
  clear hd
  go_cut [4] from 8 (fun v4 wx => v4 = .int .i64 0 ∧ E = 0 ∧ 0 ≤ k ∧ k < n ∧ (d.l.length : Int) = n ∧ d.id = i ∧ d.added = c.added ∧ AdS base W p vl ls dn d wx ∧ BoxC wx B5 [.int .i64 i, .int .i64 k, .int .i64 n, .int .u32 s] ∧ Fresh W.heap.size wx (.slice Ab nb cb) (bP pb))
  case first =>
    have hv5 := H.out.same HS5.out
    have c0 := hv5.2.1.1 0 _ rfl
    have c1 := hv5.2.1.1 1 _ rfl
    have b0 := HB5.out.1 0 _ rfl
    have b1 := HB5.out.1 1 _ rfl
    have b2 := HB5.out.1 2 _ rfl
    have b3 := HB5.out.1 3 _ rfl
    have HV5 := Lib.hid hv5
    obtain ⟨Al, cl, hvl, hlc, hcm⟩ := hv5.len
    clear hv5
    rcases HW.out with ⟨h1, h2⟩ | ⟨h1, h2, h3⟩ | ⟨h1, h2, h3⟩ | ⟨h1, h2, h3, h4⟩ | ⟨h1, h2, h3, h4, h5⟩
    · have hr : (R != 0) = true := by simpa using h1
      have H2 := Lib.hid h2
      have HD2 := Lib.hid (show D = c from by rw [HD.out]; exact add_bad (by rw [← HE.out, h2]; exact h1))
      clear h1 h2 hvl
      go_wp2_with fail
      go_ret
      exact ⟨by rw [H2.out]; rfl, by rw [HD2.out]; exact ChG.stay H.out HS5.out⟩
    · subst h1
      have H3 := Lib.hid h3
      have HD2 := Lib.hid (show D = c from by rw [HD.out]; exact add_bad (by rw [← HE.out, h3]; decide))
      clear h3 hvl
      go_upto_region 8 with (fail)
      go_quiet (fail)
      go_wp2_with fail
      go_ret
      exact ⟨by rw [H3.out]; rfl, by rw [HD2.out]; exact ChG.stay H.out (HS5.out.drewN _)⟩
    · subst h1
      have H3 := Lib.hid h3
      have hh2 : ¬ i < c.id := by omega
      have HBD := Lib.hid (HBAD.out HV.out.2.2.2.2.symm)
      have hnb := HBD.out
      unfold badP at hnb
      rw [← HV.out.1, ← HV.out.2.1, ← HV.out.2.2.1] at hnb
      have hkr := HR.out.2.1
      rw [not_or, not_or, not_or, not_or, not_or] at hnb
      obtain ⟨m1, m2, m3, m4, m5, -⟩ := hnb
      obtain ⟨N, rfl⟩ : ∃ N : Nat, n = N := ⟨n.toNat, by omega⟩
      clear h3
      go_upto_region 8 with (fail)
      go_quiet (fail)
      obtain ⟨n1, rfl⟩ : ∃ n1, n1 = nq := ⟨_, rfl⟩
      go_upto_region 10 with (fail)
      go_quiet (fail)
      go_upto_region 11 with (fail)
      have hpw8 : Pre7 W p B5 [.int .i64 i, .int .i64 k, .int .i64 (N : Int), .int .u32 s] (.slice Ab nb cb) (bP pb) ((w5.drewN n1).drewN nq).drew (chC c vl dn false) := by
        have hu := (((Upd.refl (fun _ => False) w5).drewN n1).drewN nq).drew
        exact ⟨(HV5.out.same hu).2.1, (Same.trans HS5.out hu).mono (fun _ _ e => e.elim), HB5.out.upd (by simp) hu id, HF5.out.same hu, H.out.lt, hB5W⟩
      have hmk := fun W => run_make_row' (P := Try.prog) 23 22 (.slice none 0 0) 24 Try.underlying23 hinfo_row rfl .i64 .i64 N (by omega) (by omega) W
      clear c0 c1 b0 b1 b2 b3 hvl hlc hcm HB5 HV5 HS5 HF5
      generalize hwd : ((w5.drewN n1).drewN nq).drew = w8 at hpw8
      refine wp_region_noPanic ?_
      refine wp_region_need (fun w' => ∀ j u, [Value.int .i64 i, .int .i64 k, .int .i64 (N : Int), .int .u32 s][j]? = some u → w'.cell? ⟨B5, j, none⟩ = some u) (fun _ => true) (by kernel_rfl) (fun hcl => ?_)
      rw [hwd]
      have hS0 := hpw8.hd.1
      have c0 := hpw8.box.1 0 _ rfl
      have c1 := hpw8.box.1 1 _ rfl
      have c2 := hpw8.box.1 2 _ rfl
      have fz := hpw8.box.2
      unfold FzAt at fz
      refine wpAnyN_take (i := 0) (v := ?_) rfl (by as_aux_lemma => kernel_rfl) (by as_aux_lemma => kernel_rfl) (by as_aux_lemma => kernel_rfl) (by as_aux_lemma => kernel_rfl) (fun _ _ _ h => h) (by assumption) hS0 (Or.inl ⟨by rfl, ?_⟩) (fun hcl0 => ?_)
      rotate_left
      · (intro wS hSw; (try dsimp only at hSw); go_simp; (try with_reducible rfl))
      clear hcl
      try simp only [Act.put, List.getElem_toArray, List.getElem_cons_succ, List.getElem_cons_zero, List.setIfInBounds_toArray, List.set_cons_zero, List.set_cons_succ]
      refine wpAnyN_take (i := 1) (v := ?_) rfl (by as_aux_lemma => kernel_rfl) (by as_aux_lemma => kernel_rfl) (by as_aux_lemma => kernel_rfl) (by as_aux_lemma => kernel_rfl) (fun _ _ _ h => h) (by assumption) hS0 (Or.inl ⟨by rfl, ?_⟩) (fun hcl1 => ?_)
      rotate_left
      · (intro wS hSw; (try dsimp only at hSw); go_simp; (try with_reducible rfl))
      clear hcl0
      try simp only [Act.put, List.getElem_toArray, List.getElem_cons_succ, List.getElem_cons_zero, List.setIfInBounds_toArray, List.set_cons_zero, List.set_cons_succ]
      refine wpAnyN_take (i := 2) (v := ?_) rfl (by as_aux_lemma => kernel_rfl) (by as_aux_lemma => kernel_rfl) (by as_aux_lemma => kernel_rfl) (by as_aux_lemma => kernel_rfl) (fun _ _ _ h => h) (by assumption) hS0 (Or.inl ⟨by rfl, ?_⟩) (fun hcl2 => ?_)
      rotate_left
      · (intro wS hSw; (try dsimp only at hSw); go_simp; (try with_reducible rfl))
      clear hcl1
      try simp only [Act.put, List.getElem_toArray, List.getElem_cons_succ, List.getElem_cons_zero, List.setIfInBounds_toArray, List.set_cons_zero, List.set_cons_succ]
      refine wpAnyN_take (i := 3) (v := ?_) rfl (by as_aux_lemma => kernel_rfl) (by as_aux_lemma => kernel_rfl) (by as_aux_lemma => kernel_rfl) (by as_aux_lemma => kernel_rfl) (fun _ _ _ h => h) (by assumption) hS0 (Or.inl ⟨by rfl, ?_⟩) (fun hcl3 => ?_)
      rotate_left
      · (intro wS hSw; (try dsimp only at hSw); go_simp; (try with_reducible rfl))
      clear hcl2
      try simp only [Act.put, List.getElem_toArray, List.getElem_cons_succ, List.getElem_cons_zero, List.setIfInBounds_toArray, List.set_cons_zero, List.set_cons_succ]
      refine wpAnyN_take (i := 4) (v := ?_) rfl (by as_aux_lemma => kernel_rfl) (by as_aux_lemma => kernel_rfl) (by as_aux_lemma => kernel_rfl) (by as_aux_lemma => kernel_rfl) (fun _ _ _ h => h) (by assumption) hS0 (Or.inl ⟨by rfl, ?_⟩) (fun hcl4 => ?_)
      rotate_left
      · (intro wS hSw; (have b0 := hSw 0 _ rfl); (have b1 := hSw 1 _ rfl); (have b2 := hSw 2 _ rfl); (have b3 := hSw 3 _ rfl); go_simp; (try with_reducible rfl))
      clear hcl3
      try simp only [Act.put, List.getElem_toArray, List.getElem_cons_succ, List.getElem_cons_zero, List.setIfInBounds_toArray, List.set_cons_zero, List.set_cons_succ]
      refine wpAnyN_take (i := 5) (v := ?_) rfl (by as_aux_lemma => kernel_rfl) (by as_aux_lemma => kernel_rfl) (by as_aux_lemma => kernel_rfl) (by as_aux_lemma => kernel_rfl) (fun _ _ _ h => h) (by assumption) hS0 (Or.inl ⟨by rfl, ?_⟩) (fun hcl5 => ?_)
      rotate_left
      · (intro wS hSw; (try dsimp only at hSw); go_simp; (try with_reducible rfl))
      clear hcl4
      try simp only [Act.put, List.getElem_toArray, List.getElem_cons_succ, List.getElem_cons_zero, List.setIfInBounds_toArray, List.set_cons_zero, List.set_cons_succ]
      refine wpAnyN_take (i := 6) (v := ?_) rfl (by as_aux_lemma => kernel_rfl) (by as_aux_lemma => kernel_rfl) (by as_aux_lemma => kernel_rfl) (by as_aux_lemma => kernel_rfl) (fun _ _ _ h => h) (by assumption) hS0 (Or.inl ⟨by rfl, ?_⟩) (fun hcl6 => ?_)
      rotate_left
      · (intro wS hSw; (have b0 := hSw 0 _ rfl); (have b1 := hSw 1 _ rfl); (have b2 := hSw 2 _ rfl); (have b3 := hSw 3 _ rfl); go_simp; (try with_reducible rfl))
      clear hcl5
      try simp only [Act.put, List.getElem_toArray, List.getElem_cons_succ, List.getElem_cons_zero, List.setIfInBounds_toArray, List.set_cons_zero, List.set_cons_succ]
      refine wpAnyN_take (i := 7) (v := ?_) rfl (by as_aux_lemma => kernel_rfl) (by as_aux_lemma => kernel_rfl) (by as_aux_lemma => kernel_rfl) (by as_aux_lemma => kernel_rfl) (fun _ _ _ h => h) (by assumption) hS0 (Or.inl ⟨by rfl, ?_⟩) (fun hcl7 => ?_)
      rotate_left
      · (intro wS hSw; (try dsimp only at hSw); go_simp; (try with_reducible rfl))
      clear hcl6
      try simp only [Act.put, List.getElem_toArray, List.getElem_cons_succ, List.getElem_cons_zero, List.setIfInBounds_toArray, List.set_cons_zero, List.set_cons_succ]
      refine wpAnyN_take (i := 8) (v := ?_) rfl (by as_aux_lemma => kernel_rfl) (by as_aux_lemma => kernel_rfl) (by as_aux_lemma => kernel_rfl) (by as_aux_lemma => kernel_rfl) (fun _ _ _ h => h) (by assumption) hS0 (Or.inl ⟨by rfl, ?_⟩) (fun hcl8 => ?_)
      rotate_left
      · (intro wS hSw; (have b0 := hSw 0 _ rfl); (have b1 := hSw 1 _ rfl); (have b2 := hSw 2 _ rfl); (have b3 := hSw 3 _ rfl); go_simp; (try with_reducible rfl))
      clear hcl7
      try simp only [Act.put, List.getElem_toArray, List.getElem_cons_succ, List.getElem_cons_zero, List.setIfInBounds_toArray, List.set_cons_zero, List.set_cons_succ]
      refine wpAnyN_take (i := 10) (v := ?_) rfl (by as_aux_lemma => kernel_rfl) (by as_aux_lemma => kernel_rfl) (by as_aux_lemma => kernel_rfl) (by as_aux_lemma => kernel_rfl) (fun _ _ _ h => h) (by assumption) hS0 (Or.inl ⟨by rfl, ?_⟩) (fun hcl10 => ?_)
      rotate_left
      · (intro wS hSw; (try dsimp only at hSw); go_simp; (try with_reducible rfl))
      clear hcl8
      try simp only [Act.put, List.getElem_toArray, List.getElem_cons_succ, List.getElem_cons_zero, List.setIfInBounds_toArray, List.set_cons_zero, List.set_cons_succ]
      refine wpAnyN_take (i := 11) (v := ?_) rfl (by as_aux_lemma => kernel_rfl) (by as_aux_lemma => kernel_rfl) (by as_aux_lemma => kernel_rfl) (by as_aux_lemma => kernel_rfl) (fun _ _ _ h => h) (by assumption) hS0 (Or.inl ⟨by rfl, ?_⟩) (fun hcl11 => ?_)
      rotate_left
      · (intro wS hSw; (try dsimp only at hSw); go_simp; (try with_reducible rfl))
      clear hcl10
      try simp only [Act.put, List.getElem_toArray, List.getElem_cons_succ, List.getElem_cons_zero, List.setIfInBounds_toArray, List.set_cons_zero, List.set_cons_succ]
      refine wpAnyN_twoC (i := 9) (j := 12) (by as_aux_lemma => kernel_rfl) rfl rfl (by assumption) (fun hcl9 K' hK' => ?_) (fun hcl12 K' hK' => ?_)
      · clear hcl11
        go_simp
        have hpw8a := hpw8.make (by simp) (by simp [chC]) (.cells (madeCells #[.slice none 0 0] N) 22)
        have hrw8a : Row7 base W _ _ N := Row7.new hpw8 HB.out (by omega)
        generalize w8.alloc (.cells (madeCells #[.slice none 0 0] N) 22) = w8a at hpw8a hrw8a ⊢
        generalize w8.heap.size = B8 at hrw8a ⊢
        clear c0 c1 c2 fz
        have c0 := hpw8a.box.1 0 _ rfl
        have c1 := hpw8a.box.1 1 _ rfl
        have c2 := hpw8a.box.1 2 _ rfl
        have fz := hpw8a.box.2
        unfold FzAt at fz
        refine hK'.out _ _ (fun _ => hpw8a.hd.1) ?_
        clear hK' K'
        try simp only [Act.put, List.getElem_toArray, List.getElem_cons_succ, List.getElem_cons_zero, List.setIfInBounds_toArray, List.set_cons_zero, List.set_cons_succ]
        refine wpAnyN_oneC (i := 12) (by as_aux_lemma => kernel_rfl) rfl (by assumption) (fun hcl12 K' hK' => ?_)
        clear hcl9
        go_simp
        have hpw8as := hpw8a.set (by simp) 0 (.int .i64 i) (by simp [chC])
        have hrw8as := hrw8a.set hpw8a.pW 0 (.int .i64 i)
        generalize w8a.setCell ⟨p, 0, none⟩ (.int .i64 i) = w8as at hpw8as hrw8as ⊢
        clear c0 c1 c2 fz
        have c0 := hpw8as.box.1 0 _ rfl
        have c1 := hpw8as.box.1 1 _ rfl
        have c2 := hpw8as.box.1 2 _ rfl
        have fz := hpw8as.box.2
        unfold FzAt at fz
        refine hK'.out _ _ (fun _ => hpw8as.hd.1) ?_
        clear hK' K'
        try simp only [Act.put, List.getElem_toArray, List.getElem_cons_succ, List.getElem_cons_zero, List.setIfInBounds_toArray, List.set_cons_zero, List.set_cons_succ]
        refine wpAnyN_take (i := 13) (v := ?_) rfl (by as_aux_lemma => kernel_rfl) (by as_aux_lemma => kernel_rfl) (by as_aux_lemma => kernel_rfl) (by as_aux_lemma => kernel_rfl) (fun _ _ _ h => h) (by assumption) hpw8as.hd.1 (Or.inl ⟨by rfl, ?_⟩) (fun hcl13 => ?_)
        rotate_left
        · (intro wS hSw; go_simp; (try with_reducible rfl))
        clear hcl12
        try simp only [Act.put, List.getElem_toArray, List.getElem_cons_succ, List.getElem_cons_zero, List.setIfInBounds_toArray, List.set_cons_zero, List.set_cons_succ]
        refine wpAnyN_take (i := 14) (v := ?_) rfl (by as_aux_lemma => kernel_rfl) (by as_aux_lemma => kernel_rfl) (by as_aux_lemma => kernel_rfl) (by as_aux_lemma => kernel_rfl) (fun _ _ _ h => h) (by assumption) hpw8as.hd.1 (Or.inl ⟨by rfl, ?_⟩) (fun hcl14 => ?_)
        rotate_left
        · (intro wS hSw; go_simp; (try with_reducible rfl))
        clear hcl13
        try simp only [Act.put, List.getElem_toArray, List.getElem_cons_succ, List.getElem_cons_zero, List.setIfInBounds_toArray, List.set_cons_zero, List.set_cons_succ]
        refine wpAnyN_oneC (i := 15) (by as_aux_lemma => kernel_rfl) rfl (by assumption) (fun hcl15 K' hK' => ?_)
        clear hcl14
        go_simp
        have hpw8ass := hpw8as.set (by simp) 1 (.int .u32 s) (by simp [chC])
        have hrw8ass := hrw8as.set hpw8as.pW 1 (.int .u32 s)
        generalize w8as.setCell ⟨p, 1, none⟩ (.int .u32 s) = w8ass at hpw8ass hrw8ass ⊢
        clear c0 c1 c2 fz
        have c0 := hpw8ass.box.1 0 _ rfl
        have c1 := hpw8ass.box.1 1 _ rfl
        have c2 := hpw8ass.box.1 2 _ rfl
        have fz := hpw8ass.box.2
        unfold FzAt at fz
        refine hK'.out _ _ (fun _ => hpw8ass.hd.1) ?_
        clear hK' K'
        try simp only [Act.put, List.getElem_toArray, List.getElem_cons_succ, List.getElem_cons_zero, List.setIfInBounds_toArray, List.set_cons_zero, List.set_cons_succ]
        refine wpAnyN_take (i := 16) (v := ?_) rfl (by as_aux_lemma => kernel_rfl) (by as_aux_lemma => kernel_rfl) (by as_aux_lemma => kernel_rfl) (by as_aux_lemma => kernel_rfl) (fun _ _ _ h => h) (by assumption) hpw8ass.hd.1 (Or.inl ⟨by rfl, ?_⟩) (fun hcl16 => ?_)
        rotate_left
        · (intro wS hSw; go_simp; (try with_reducible rfl))
        clear hcl15
        try simp only [Act.put, List.getElem_toArray, List.getElem_cons_succ, List.getElem_cons_zero, List.setIfInBounds_toArray, List.set_cons_zero, List.set_cons_succ]
        refine wpAnyN_take (i := 17) (v := ?_) rfl (by as_aux_lemma => kernel_rfl) (by as_aux_lemma => kernel_rfl) (by as_aux_lemma => kernel_rfl) (by as_aux_lemma => kernel_rfl) (fun _ _ _ h => h) (by assumption) hpw8ass.hd.1 (Or.inl ⟨by rfl, ?_⟩) (fun hcl17 => ?_)
        rotate_left
        · (intro wS hSw; go_simp; (try with_reducible rfl))
        clear hcl16
        try simp only [Act.put, List.getElem_toArray, List.getElem_cons_succ, List.getElem_cons_zero, List.setIfInBounds_toArray, List.set_cons_zero, List.set_cons_succ]
        refine wpAnyN_oneC (i := 18) (by as_aux_lemma => kernel_rfl) rfl (by assumption) (fun hcl18 K' hK' => ?_)
        clear hcl17
        go_simp
        have hpw8asss := hpw8ass.set (by simp) 2 (.slice (some ⟨B8, 0, none⟩) N N) (by simp [chC])
        have hrw8asss := hrw8ass.set hpw8ass.pW 2 (.slice (some ⟨B8, 0, none⟩) N N)
        generalize w8ass.setCell ⟨p, 2, none⟩ (.slice (some ⟨B8, 0, none⟩) N N) = w8asss at hpw8asss hrw8asss ⊢
        clear c0 c1 c2 fz
        have c0 := hpw8asss.box.1 0 _ rfl
        have c1 := hpw8asss.box.1 1 _ rfl
        have c2 := hpw8asss.box.1 2 _ rfl
        have fz := hpw8asss.box.2
        unfold FzAt at fz
        refine hK'.out _ _ (fun _ => hpw8asss.hd.1) ?_
        clear hK' K'
        try simp only [Act.put, List.getElem_toArray, List.getElem_cons_succ, List.getElem_cons_zero, List.setIfInBounds_toArray, List.set_cons_zero, List.set_cons_succ]
        refine wpAnyN_done (by as_aux_lemma => kernel_rfl) ?_ _
        refine NoPanic.normal ?_
        have hdv : d = ⟨i, s, List.replicate N none, c.added⟩ := by rw [HDD.out]; unfold Cs.to; rw [if_pos (by rw [← HV.out.1]; exact h2), ← HV.out.1, ← HV.out.2.2.1, ← HV.out.2.2.2.1, Int.toNat_natCast]
        have HDV := Lib.hid hdv
        have HST := Lib.hid (AdS.of H.out (i := i) (s := s) (a := c.added) hpw8asss hrw8asss)
        have HPZ := Lib.hid hpw8asss
        clear hdv c0 c1 c2 fz hmk hS0 hcl18
        go_wp2_with fail
        go_meet
        exact ⟨rfl, H3.out, hkr.1, by omega, by rw [HDV.out]; simp, by rw [HDV.out], by rw [HDV.out], by rw [HDV.out]; exact HST.out, HPZ.out.hd, HPZ.out.fr⟩
      · clear hcl11
        go_simp
        have hpw8s := hpw8.set (by simp) 0 (.int .i64 i) (by simp [chC])
        generalize w8.setCell ⟨p, 0, none⟩ (.int .i64 i) = w8s at hpw8s ⊢
        clear c0 c1 c2 fz
        have c0 := hpw8s.box.1 0 _ rfl
        have c1 := hpw8s.box.1 1 _ rfl
        have c2 := hpw8s.box.1 2 _ rfl
        have fz := hpw8s.box.2
        unfold FzAt at fz
        refine hK'.out _ _ (fun _ => hpw8s.hd.1) ?_
        clear hK' K'
        try simp only [Act.put, List.getElem_toArray, List.getElem_cons_succ, List.getElem_cons_zero, List.setIfInBounds_toArray, List.set_cons_zero, List.set_cons_succ]
        refine wpAnyN_take (i := 13) (v := ?_) rfl (by as_aux_lemma => kernel_rfl) (by as_aux_lemma => kernel_rfl) (by as_aux_lemma => kernel_rfl) (by as_aux_lemma => kernel_rfl) (fun _ _ _ h => h) (by assumption) hpw8s.hd.1 (Or.inl ⟨by rfl, ?_⟩) (fun hcl13 => ?_)
        rotate_left
        · (intro wS hSw; go_simp; (try with_reducible rfl))
        clear hcl12
        try simp only [Act.put, List.getElem_toArray, List.getElem_cons_succ, List.getElem_cons_zero, List.setIfInBounds_toArray, List.set_cons_zero, List.set_cons_succ]
        refine wpAnyN_take (i := 14) (v := ?_) rfl (by as_aux_lemma => kernel_rfl) (by as_aux_lemma => kernel_rfl) (by as_aux_lemma => kernel_rfl) (by as_aux_lemma => kernel_rfl) (fun _ _ _ h => h) (by assumption) hpw8s.hd.1 (Or.inl ⟨by rfl, ?_⟩) (fun hcl14 => ?_)
        rotate_left
        · (intro wS hSw; go_simp; (try with_reducible rfl))
        clear hcl13
        try simp only [Act.put, List.getElem_toArray, List.getElem_cons_succ, List.getElem_cons_zero, List.setIfInBounds_toArray, List.set_cons_zero, List.set_cons_succ]
        refine wpAnyN_twoC (i := 9) (j := 15) (by as_aux_lemma => kernel_rfl) rfl rfl (by assumption) (fun hcl9 K' hK' => ?_) (fun hcl15 K' hK' => ?_)
        · clear hcl14
          go_simp
          have hpw8sa := hpw8s.make (by simp) (by simp [chC]) (.cells (madeCells #[.slice none 0 0] N) 22)
          have hrw8sa : Row7 base W _ _ N := Row7.new hpw8s HB.out (by omega)
          generalize w8s.alloc (.cells (madeCells #[.slice none 0 0] N) 22) = w8sa at hpw8sa hrw8sa ⊢
          generalize w8s.heap.size = B8 at hrw8sa ⊢
          clear c0 c1 c2 fz
          have c0 := hpw8sa.box.1 0 _ rfl
          have c1 := hpw8sa.box.1 1 _ rfl
          have c2 := hpw8sa.box.1 2 _ rfl
          have fz := hpw8sa.box.2
          unfold FzAt at fz
          refine hK'.out _ _ (fun _ => hpw8sa.hd.1) ?_
          clear hK' K'
          try simp only [Act.put, List.getElem_toArray, List.getElem_cons_succ, List.getElem_cons_zero, List.setIfInBounds_toArray, List.set_cons_zero, List.set_cons_succ]
          refine wpAnyN_oneC (i := 15) (by as_aux_lemma => kernel_rfl) rfl (by assumption) (fun hcl15 K' hK' => ?_)
          clear hcl9
          go_simp
          have hpw8sas := hpw8sa.set (by simp) 1 (.int .u32 s) (by simp [chC])
          have hrw8sas := hrw8sa.set hpw8sa.pW 1 (.int .u32 s)
          generalize w8sa.setCell ⟨p, 1, none⟩ (.int .u32 s) = w8sas at hpw8sas hrw8sas ⊢
          clear c0 c1 c2 fz
          have c0 := hpw8sas.box.1 0 _ rfl
          have c1 := hpw8sas.box.1 1 _ rfl
          have c2 := hpw8sas.box.1 2 _ rfl
          have fz := hpw8sas.box.2
          unfold FzAt at fz
          refine hK'.out _ _ (fun _ => hpw8sas.hd.1) ?_
          clear hK' K'
          try simp only [Act.put, List.getElem_toArray, List.getElem_cons_succ, List.getElem_cons_zero, List.setIfInBounds_toArray, List.set_cons_zero, List.set_cons_succ]
          refine wpAnyN_take (i := 16) (v := ?_) rfl (by as_aux_lemma => kernel_rfl) (by as_aux_lemma => kernel_rfl) (by as_aux_lemma => kernel_rfl) (by as_aux_lemma => kernel_rfl) (fun _ _ _ h => h) (by assumption) hpw8sas.hd.1 (Or.inl ⟨by rfl, ?_⟩) (fun hcl16 => ?_)
          rotate_left
          · (intro wS hSw; go_simp; (try with_reducible rfl))
          clear hcl15
          try simp only [Act.put, List.getElem_toArray, List.getElem_cons_succ, List.getElem_cons_zero, List.setIfInBounds_toArray, List.set_cons_zero, List.set_cons_succ]
          refine wpAnyN_take (i := 17) (v := ?_) rfl (by as_aux_lemma => kernel_rfl) (by as_aux_lemma => kernel_rfl) (by as_aux_lemma => kernel_rfl) (by as_aux_lemma => kernel_rfl) (fun _ _ _ h => h) (by assumption) hpw8sas.hd.1 (Or.inl ⟨by rfl, ?_⟩) (fun hcl17 => ?_)
          rotate_left
          · (intro wS hSw; go_simp; (try with_reducible rfl))
          clear hcl16
          try simp only [Act.put, List.getElem_toArray, List.getElem_cons_succ, List.getElem_cons_zero, List.setIfInBounds_toArray, List.set_cons_zero, List.set_cons_succ]
          refine wpAnyN_oneC (i := 18) (by as_aux_lemma => kernel_rfl) rfl (by assumption) (fun hcl18 K' hK' => ?_)
          clear hcl17
          go_simp
          have hpw8sass := hpw8sas.set (by simp) 2 (.slice (some ⟨B8, 0, none⟩) N N) (by simp [chC])
          have hrw8sass := hrw8sas.set hpw8sas.pW 2 (.slice (some ⟨B8, 0, none⟩) N N)
          generalize w8sas.setCell ⟨p, 2, none⟩ (.slice (some ⟨B8, 0, none⟩) N N) = w8sass at hpw8sass hrw8sass ⊢
          clear c0 c1 c2 fz
          have c0 := hpw8sass.box.1 0 _ rfl
          have c1 := hpw8sass.box.1 1 _ rfl
          have c2 := hpw8sass.box.1 2 _ rfl
          have fz := hpw8sass.box.2
          unfold FzAt at fz
          refine hK'.out _ _ (fun _ => hpw8sass.hd.1) ?_
          clear hK' K'
          try simp only [Act.put, List.getElem_toArray, List.getElem_cons_succ, List.getElem_cons_zero, List.setIfInBounds_toArray, List.set_cons_zero, List.set_cons_succ]
          refine wpAnyN_done (by as_aux_lemma => kernel_rfl) ?_ _
          refine NoPanic.normal ?_
          have hdv : d = ⟨i, s, List.replicate N none, c.added⟩ := by rw [HDD.out]; unfold Cs.to; rw [if_pos (by rw [← HV.out.1]; exact h2), ← HV.out.1, ← HV.out.2.2.1, ← HV.out.2.2.2.1, Int.toNat_natCast]
          have HDV := Lib.hid hdv
          have HST := Lib.hid (AdS.of H.out (i := i) (s := s) (a := c.added) hpw8sass hrw8sass)
          have HPZ := Lib.hid hpw8sass
          clear hdv c0 c1 c2 fz hmk hS0 hcl18
          go_wp2_with fail
          go_meet
          exact ⟨rfl, H3.out, hkr.1, by omega, by rw [HDV.out]; simp, by rw [HDV.out], by rw [HDV.out], by rw [HDV.out]; exact HST.out, HPZ.out.hd, HPZ.out.fr⟩
        · clear hcl14
          go_simp
          have hpw8ss := hpw8s.set (by simp) 1 (.int .u32 s) (by simp [chC])
          generalize w8s.setCell ⟨p, 1, none⟩ (.int .u32 s) = w8ss at hpw8ss ⊢
          clear c0 c1 c2 fz
          have c0 := hpw8ss.box.1 0 _ rfl
          have c1 := hpw8ss.box.1 1 _ rfl
          have c2 := hpw8ss.box.1 2 _ rfl
          have fz := hpw8ss.box.2
          unfold FzAt at fz
          refine hK'.out _ _ (fun _ => hpw8ss.hd.1) ?_
          clear hK' K'
          try simp only [Act.put, List.getElem_toArray, List.getElem_cons_succ, List.getElem_cons_zero, List.setIfInBounds_toArray, List.set_cons_zero, List.set_cons_succ]
          refine wpAnyN_oneC (i := 9) (by as_aux_lemma => kernel_rfl) rfl (by assumption) (fun hcl9 K' hK' => ?_)
          clear hcl15
          go_simp
          have hpw8ssa := hpw8ss.make (by simp) (by simp [chC]) (.cells (madeCells #[.slice none 0 0] N) 22)
          have hrw8ssa : Row7 base W _ _ N := Row7.new hpw8ss HB.out (by omega)
          generalize w8ss.alloc (.cells (madeCells #[.slice none 0 0] N) 22) = w8ssa at hpw8ssa hrw8ssa ⊢
          generalize w8ss.heap.size = B8 at hrw8ssa ⊢
          clear c0 c1 c2 fz
          have c0 := hpw8ssa.box.1 0 _ rfl
          have c1 := hpw8ssa.box.1 1 _ rfl
          have c2 := hpw8ssa.box.1 2 _ rfl
          have fz := hpw8ssa.box.2
          unfold FzAt at fz
          refine hK'.out _ _ (fun _ => hpw8ssa.hd.1) ?_
          clear hK' K'
          try simp only [Act.put, List.getElem_toArray, List.getElem_cons_succ, List.getElem_cons_zero, List.setIfInBounds_toArray, List.set_cons_zero, List.set_cons_succ]
          refine wpAnyN_take (i := 16) (v := ?_) rfl (by as_aux_lemma => kernel_rfl) (by as_aux_lemma => kernel_rfl) (by as_aux_lemma => kernel_rfl) (by as_aux_lemma => kernel_rfl) (fun _ _ _ h => h) (by assumption) hpw8ssa.hd.1 (Or.inl ⟨by rfl, ?_⟩) (fun hcl16 => ?_)
          rotate_left
          · (intro wS hSw; go_simp; (try with_reducible rfl))
          clear hcl9
          try simp only [Act.put, List.getElem_toArray, List.getElem_cons_succ, List.getElem_cons_zero, List.setIfInBounds_toArray, List.set_cons_zero, List.set_cons_succ]
          refine wpAnyN_take (i := 17) (v := ?_) rfl (by as_aux_lemma => kernel_rfl) (by as_aux_lemma => kernel_rfl) (by as_aux_lemma => kernel_rfl) (by as_aux_lemma => kernel_rfl) (fun _ _ _ h => h) (by assumption) hpw8ssa.hd.1 (Or.inl ⟨by rfl, ?_⟩) (fun hcl17 => ?_)
          rotate_left
          · (intro wS hSw; go_simp; (try with_reducible rfl))
          clear hcl16
          try simp only [Act.put, List.getElem_toArray, List.getElem_cons_succ, List.getElem_cons_zero, List.setIfInBounds_toArray, List.set_cons_zero, List.set_cons_succ]
          refine wpAnyN_oneC (i := 18) (by as_aux_lemma => kernel_rfl) rfl (by assumption) (fun hcl18 K' hK' => ?_)
          clear hcl17
          go_simp
          have hpw8ssas := hpw8ssa.set (by simp) 2 (.slice (some ⟨B8, 0, none⟩) N N) (by simp [chC])
          have hrw8ssas := hrw8ssa.set hpw8ssa.pW 2 (.slice (some ⟨B8, 0, none⟩) N N)
          generalize w8ssa.setCell ⟨p, 2, none⟩ (.slice (some ⟨B8, 0, none⟩) N N) = w8ssas at hpw8ssas hrw8ssas ⊢
          clear c0 c1 c2 fz
          have c0 := hpw8ssas.box.1 0 _ rfl
          have c1 := hpw8ssas.box.1 1 _ rfl
          have c2 := hpw8ssas.box.1 2 _ rfl
          have fz := hpw8ssas.box.2
          unfold FzAt at fz
          refine hK'.out _ _ (fun _ => hpw8ssas.hd.1) ?_
          clear hK' K'
          try simp only [Act.put, List.getElem_toArray, List.getElem_cons_succ, List.getElem_cons_zero, List.setIfInBounds_toArray, List.set_cons_zero, List.set_cons_succ]
          refine wpAnyN_done (by as_aux_lemma => kernel_rfl) ?_ _
          refine NoPanic.normal ?_
          have hdv : d = ⟨i, s, List.replicate N none, c.added⟩ := by rw [HDD.out]; unfold Cs.to; rw [if_pos (by rw [← HV.out.1]; exact h2), ← HV.out.1, ← HV.out.2.2.1, ← HV.out.2.2.2.1, Int.toNat_natCast]
          have HDV := Lib.hid hdv
          have HST := Lib.hid (AdS.of H.out (i := i) (s := s) (a := c.added) hpw8ssas hrw8ssas)
          have HPZ := Lib.hid hpw8ssas
          clear hdv c0 c1 c2 fz hmk hS0 hcl18
          go_wp2_with fail
          go_meet
          exact ⟨rfl, H3.out, hkr.1, by omega, by rw [HDV.out]; simp, by rw [HDV.out], by rw [HDV.out], by rw [HDV.out]; exact HST.out, HPZ.out.hd, HPZ.out.fr⟩
    · subst h1
      have H4 := Lib.hid h4
      have HD2 := Lib.hid (show D = c from by rw [HD.out]; exact add_bad (by rw [← HE.out, h4]; decide))
      have hh1 : ¬ i < c.id := by omega
      have hh2 : ¬ c.id < i := by omega
      have hll := H.out.llen
      subst hvl
      have c2 := HV5.out.2.1.1 2 _ rfl
      have h3' : (ls.length : Int) ≠ n ∨ c.s ≠ s := by rw [hll]; exact h3
      clear h2 h4 h3
      go_upto_region 8 with (fail)
      go_quiet (fail)
      go_upto_region 10 with (fail)
      go_quiet (fail)
      go_upto_region 12 with (fail)
      by_cases hz : (ls.length : Int) = n
      · have hc1 : (((ls.length : Nat) : Int) != n) = false := by simpa using hz
        have hc2 : (c.s != s) = true := by
          rcases h3' with h | h
          · exact absurd hz h
          · simpa using h
        clear hz h3' hll
        go_quiet (fail)
        go_wp2_with fail
        go_ret
        exact ⟨by rw [H4.out]; rfl, by rw [HD2.out]; exact ChG.stay H.out (HS5.out.drewN _)⟩
      · have hc1 : (((ls.length : Nat) : Int) != n) = true := by simpa using hz
        clear hz h3' hll
        go_quiet (fail)
        go_wp2_with fail
        go_ret
        exact ⟨by rw [H4.out]; rfl, by rw [HD2.out]; exact ChG.stay H.out (HS5.out.drewN _)⟩
    · subst h1
      have H5 := Lib.hid h5
      have hh1 : ¬ i < c.id := by omega
      have hh2 : ¬ c.id < i := by omega
      have hll := H.out.llen
      subst hvl
      have c2 := HV5.out.2.1.1 2 _ rfl
      have HNB2 := Lib.hid (HBAD.out HV.out.2.2.2.2.symm)
      have HDC := Lib.hid (show d = c from by rw [HDD.out]; unfold Cs.to; rw [if_neg (by rw [← HV.out.1]; exact hh2)])
      have HST := Lib.hid (And.intro h2 (And.intro h3 h4))
      have hc1 : (((ls.length : Nat) : Int) != n) = false := by rw [hll]; simpa using h3
      have hc2 : (c.s != s) = false := by simpa using h4
      clear h2 h3 h4 h5 hll
      go_upto_region 8 with (fail)
      go_quiet (fail)
      go_upto_region 10 with (fail)
      go_quiet (fail)
      go_upto_region 12 with (fail)
      go_quiet (fail)
      go_wp2_with fail
      go_meet
      have hnb := HNB2.out
      unfold badP at hnb
      rw [← HV.out.1, ← HV.out.2.1, ← HV.out.2.2.1] at hnb
      exact ⟨rfl, H5.out, HR.out.2.1.1, by omega, by rw [HDC.out]; exact HST.out.2.1, by rw [HDC.out]; exact HST.out.1.symm, by rw [HDC.out], ⟨_, ls, by rw [HDC.out]; exact H.out.same (HS5.out.drewN _), (HS5.out.drewN _).mono (fun _ _ e => e.elim), fun k hk => .inl hk, fun k hk => .inl hk⟩, HB5.out.upd (S := fun _ => False) (by simp) ((Upd.refl (fun _ => False) w5).drewN _) id, HF5.out.same ((Upd.refl (fun _ => False) w5).drewN _)⟩
  case rest =>
  obtain ⟨rfl, hE0, hk0, hkn, hdl, hdid, hdad, ⟨vl', ls', hv, hu, hft, hwr⟩, hbx, hfr⟩ := hcut
  obtain ⟨K, rfl⟩ : ∃ K : Nat, k = K := ⟨k.toNat, by omega⟩
  have hll := hv.llen
  have hKl : K < ls'.length := by omega
  obtain ⟨Al, cl, rfl, hlc, hcm⟩ := hv.len
  obtain ⟨x, hx⟩ : ∃ x, ls'[K]? = some x := ⟨_, List.getElem?_eq_getElem hKl⟩
  obtain ⟨bl, ol, rfl, hcx⟩ := hv.at_ hx
  have hit := hv.2.2.2.2.1 x (List.mem_of_getElem? hx)
  have HV2 := Lib.hid hv
  have HU2 := Lib.hid (And.intro hu (And.intro hft hwr))
  have HBX := Lib.hid hbx
  have HFR := Lib.hid hfr
  have HIT := Lib.hid hit
  have HX := Lib.hid hx
  have HE0 := Lib.hid hE0
  have HDF := Lib.hid (And.intro hdl (And.intro hdid hdad))
  have hKi : (K : Int) < (ls'.length : Int) := by omega
  have c2 := hv.2.1.1 2 _ rfl
  have b1 := hbx.1 1 _ rfl
  clear hE0 hdl hdid hdad hv hu hft hwr hbx hfr hit hll hx
  obtain ⟨xv, xo⟩ := x
  dsimp only at hcx
  have hxo : xv = .slice none 0 0 ∧ xo = none ∨ ∃ a n cap b, xv = .slice (some a) n cap ∧ xo = some b := by
    have h := HIT.out
    unfold ItemAt at h
    cases xo with
    | none => exact .inl ⟨h, rfl⟩
    | some b =>
      obtain ⟨a, n, cap, h1, -⟩ := h
      exact .inr ⟨a, n, cap, b, h1, rfl⟩
  go_upto_region 14 with (fail)
  go_cut [84] from 76 (fun v84 wx => v84 = .bool xo.isNone ∧ Same wc wx)
  case first =>
    rcases hxo with ⟨rfl, rfl⟩ | ⟨a, m, cap, b, rfl, rfl⟩
    · have hnil := fun W => Lib.run_eql_slice_nil (P := Try.prog) W 22 5 none 0 0 0 0 Try.underlying22
      simp only [Option.isNone_none] at hnil
      go_quiet (fail)
      go_wp2_with fail
      go_meet
      exact ⟨rfl, (Upd.refl _ wc).drewN _⟩
    · have hnil := fun W => Lib.run_eql_slice_nil (P := Try.prog) W 22 5 (some a) m cap 0 0 Try.underlying22
      simp only [Option.isNone_some] at hnil
      go_quiet (fail)
      go_wp2_with fail
      go_meet
      exact ⟨rfl, (Upd.refl _ wc).drewN _⟩
  case rest =>
  obtain ⟨rfl, hs9⟩ := hcut
  have HV3 := Lib.hid (HV2.out.same hs9)
  have HBX3 := Lib.hid (HBX.out.upd (by simp) hs9 id)
  have HFR3 := Lib.hid (HFR.out.same hs9)
  have HU3 := Lib.hid (Same.trans HU2.out.1 hs9)
  clear hs9 hcx c2 b1
  go_upto_if 84 with (fail)
  go_cut [85] from 86 (fun v85 wx => ∃ ls2, ChV base wx p (.slice (some ⟨bl, ol, none⟩) ls'.length cl) ls2 { d with l := putAt d.l K (bP pb) } dn false ∧ Upd (cwr p vl) W wx ∧ ∀ q, cfoot p (.slice (some ⟨bl, ol, none⟩) ls'.length cl) ls2 q → cfoot p vl ls q ∨ W.heap.size ≤ q)
  case first =>
    rcases hxo with ⟨rfl, rfl⟩ | ⟨a, m, cap, b, rfl, rfl⟩
    · have c2 := HV3.out.2.1.1 2 _ rfl
      have b1 := HBX3.out.1 1 _ rfl
      go_upto_region 15 with (fail)
      have hp0 : Same wc wc.drew := (Upd.refl _ wc).drew
      have hv4 := HV3.out.same hp0
      have hfr4 := HFR3.out.same hp0
      have hu4 := Same.trans HU3.out hp0
      have hS0 : (∀ j u, [Value.int .i64 i, .int .i64 (K : Int), .int .i64 n, .int .u32 s][j]? = some u → wc.drew.cell? ⟨B5, j, none⟩ = some u) ∧ wc.drew.cell? ⟨p, 2, none⟩ = some (.slice (some ⟨bl, ol, none⟩) ls'.length cl) := ⟨fun j u hj => hp0.cell (HBX3.out.1 j u hj) id, hp0.cell c2 id⟩
      clear c2 b1
      generalize hwd : wc.drew = w0 at hp0 hv4 hfr4 hu4 hS0
      refine wp_region_noPanic ?_
      refine wp_region_need (fun w' => (∀ j u, [Value.int .i64 i, .int .i64 (K : Int), .int .i64 n, .int .u32 s][j]? = some u → w'.cell? ⟨B5, j, none⟩ = some u) ∧ w'.cell? ⟨p, 2, none⟩ = some (.slice (some ⟨bl, ol, none⟩) ls'.length cl)) (fun i => i != 10) (by kernel_rfl) (fun hcl => ?_)
      rw [hwd]
      refine wpAnyN_take (i := 0) (v := ?_) rfl (by as_aux_lemma => kernel_rfl) (by as_aux_lemma => kernel_rfl) (by as_aux_lemma => kernel_rfl) (by as_aux_lemma => kernel_rfl) (fun _ _ _ h => h) (by assumption) hS0 (Or.inl ⟨by rfl, ?_⟩) (fun hcl0 => ?_)
      rotate_left
      · (intro wS hSw; (obtain ⟨hSa, hSb⟩ := hSw); (have b1 := hSa 1 _ rfl); go_simp; (try with_reducible rfl))
      clear hcl
      try simp only [Act.put, List.getElem_toArray, List.getElem_cons_succ, List.getElem_cons_zero, List.setIfInBounds_toArray, List.set_cons_zero, List.set_cons_succ]
      refine wpAnyN_take (i := 1) (v := ?_) rfl (by as_aux_lemma => kernel_rfl) (by as_aux_lemma => kernel_rfl) (by as_aux_lemma => kernel_rfl) (by as_aux_lemma => kernel_rfl) (fun _ _ _ h => h) (by assumption) hS0 (Or.inl ⟨by rfl, ?_⟩) (fun hcl1 => ?_)
      rotate_left
      · (intro wS hSw; (obtain ⟨hSa, hSb⟩ := hSw); (have b1 := hSa 1 _ rfl); go_simp; (try with_reducible rfl))
      clear hcl0
      try simp only [Act.put, List.getElem_toArray, List.getElem_cons_succ, List.getElem_cons_zero, List.setIfInBounds_toArray, List.set_cons_zero, List.set_cons_succ]
      refine wpAnyN_take (i := 2) (v := ?_) rfl (by as_aux_lemma => kernel_rfl) (by as_aux_lemma => kernel_rfl) (by as_aux_lemma => kernel_rfl) (by as_aux_lemma => kernel_rfl) (fun _ _ _ h => h) (by assumption) hS0 (Or.inl ⟨by rfl, ?_⟩) (fun hcl2 => ?_)
      rotate_left
      · (intro wS hSw; (obtain ⟨hSa, hSb⟩ := hSw); (have b1 := hSa 1 _ rfl); go_simp; (try with_reducible rfl))
      clear hcl1
      try simp only [Act.put, List.getElem_toArray, List.getElem_cons_succ, List.getElem_cons_zero, List.setIfInBounds_toArray, List.set_cons_zero, List.set_cons_succ]
      refine wpAnyN_take (i := 3) (v := ?_) rfl (by as_aux_lemma => kernel_rfl) (by as_aux_lemma => kernel_rfl) (by as_aux_lemma => kernel_rfl) (by as_aux_lemma => kernel_rfl) (fun _ _ _ h => h) (by assumption) hS0 (Or.inl ⟨by rfl, ?_⟩) (fun hcl3 => ?_)
      rotate_left
      · (intro wS hSw; (obtain ⟨hSa, hSb⟩ := hSw); (have b1 := hSa 1 _ rfl); go_simp; (try with_reducible rfl))
      clear hcl2
      try simp only [Act.put, List.getElem_toArray, List.getElem_cons_succ, List.getElem_cons_zero, List.setIfInBounds_toArray, List.set_cons_zero, List.set_cons_succ]
      refine wpAnyN_take (i := 4) (v := ?_) rfl (by as_aux_lemma => kernel_rfl) (by as_aux_lemma => kernel_rfl) (by as_aux_lemma => kernel_rfl) (by as_aux_lemma => kernel_rfl) (fun _ _ _ h => h) (by assumption) hS0 (Or.inl ⟨by rfl, ?_⟩) (fun hcl4 => ?_)
      rotate_left
      · (intro wS hSw; (obtain ⟨hSa, hSb⟩ := hSw); (have b1 := hSa 1 _ rfl); go_simp; (try with_reducible rfl))
      clear hcl3
      try simp only [Act.put, List.getElem_toArray, List.getElem_cons_succ, List.getElem_cons_zero, List.setIfInBounds_toArray, List.set_cons_zero, List.set_cons_succ]
      refine wpAnyN_take (i := 5) (v := ?_) rfl (by as_aux_lemma => kernel_rfl) (by as_aux_lemma => kernel_rfl) (by as_aux_lemma => kernel_rfl) (by as_aux_lemma => kernel_rfl) (fun _ _ _ h => h) (by assumption) hS0 (Or.inl ⟨by rfl, ?_⟩) (fun hcl5 => ?_)
      rotate_left
      · (intro wS hSw; (obtain ⟨hSa, hSb⟩ := hSw); (have b1 := hSa 1 _ rfl); go_simp; (try with_reducible rfl))
      clear hcl4
      try simp only [Act.put, List.getElem_toArray, List.getElem_cons_succ, List.getElem_cons_zero, List.setIfInBounds_toArray, List.set_cons_zero, List.set_cons_succ]
      refine wpAnyN_take (i := 7) (v := ?_) rfl (by as_aux_lemma => kernel_rfl) (by as_aux_lemma => kernel_rfl) (by as_aux_lemma => kernel_rfl) (by as_aux_lemma => kernel_rfl) (fun _ _ _ h => h) (by assumption) hS0 (Or.inl ⟨by rfl, ?_⟩) (fun hcl7 => ?_)
      rotate_left
      · (intro wS hSw; (obtain ⟨hSa, hSb⟩ := hSw); (have b1 := hSa 1 _ rfl); go_simp; (try with_reducible rfl))
      clear hcl5
      try simp only [Act.put, List.getElem_toArray, List.getElem_cons_succ, List.getElem_cons_zero, List.setIfInBounds_toArray, List.set_cons_zero, List.set_cons_succ]
      refine wpAnyN_oneC (i := 6) (by as_aux_lemma => kernel_rfl) rfl (by assumption) (fun hcl6 K' hK' => ?_)
      clear hcl7
      go_simp
      have hal : Same w0 (w0.alloc (.cells #[] 5)) := (Upd.refl _ w0).alloc _
      generalize w0.alloc (.cells #[] 5) = wa at hal ⊢
      have hS1 : (∀ j u, [Value.int .i64 i, .int .i64 (K : Int), .int .i64 n, .int .u32 s][j]? = some u → wa.cell? ⟨B5, j, none⟩ = some u) ∧ wa.cell? ⟨p, 2, none⟩ = some (.slice (some ⟨bl, ol, none⟩) ls'.length cl) := ⟨fun j u hj => hal.cell (hS0.1 j u hj) id, hal.cell hS0.2 id⟩
      have hfra := hfr4.same hal
      generalize w0.heap.size = B9
      refine hK'.out _ _ (fun _ => hS1) ?_
      clear hK' K'
      try simp only [Act.put, List.getElem_toArray, List.getElem_cons_succ, List.getElem_cons_zero, List.setIfInBounds_toArray, List.set_cons_zero, List.set_cons_succ]
      refine wpAnyN_oneC (i := 8) (by as_aux_lemma => kernel_rfl) rfl (by assumption) (fun hcl8 K' hK' => ?_)
      clear hcl6
      refine step_append_some rfl (.tmp 91) (.tmp 92) 22 rfl Try.underlying22 li5 ⟨B9, 0, none⟩ (.slice Ab nb cb) (bP pb) (by simp [Act.eval, Act.put]) (by simp [Act.eval, Act.put]) hfra.bs (by have := bP_le pb; have := HP.out.2; omega) ?_
      intro a' n' c' wb hfn hsn
      have hS2 : (∀ j u, [Value.int .i64 i, .int .i64 (K : Int), .int .i64 n, .int .u32 s][j]? = some u → wb.cell? ⟨B5, j, none⟩ = some u) ∧ wb.cell? ⟨p, 2, none⟩ = some (.slice (some ⟨bl, ol, none⟩) ls'.length cl) := ⟨fun j u hj => hsn.cell (hS1.1 j u hj) id, hsn.cell hS1.2 id⟩
      have hvw := hv4.same (Same.trans hal hsn)
      have hvz := hvw.put hKl (u := .slice (some a') n' c') (b := bP pb) rfl (hfn.mono (by have := HB.out; have := hu4.size; have := hal.size; omega)) (fun q hq => ⟨fun e => by have := (hfn.ge q hq).1; have := hal.size; have := hv4.lt; omega, fun e => by have := (hfn.ge q hq).1; have := hal.size; have := (hv4.foot q (.inr (.inl e))).2; omega⟩)
      have f9 := hvz.2.2
      obtain ⟨_, _, e9, c9⟩ := hvw.at_ HX.out
      injection e9 with e9
      injection e9 with e9 e10
      subst e9 e10
      refine hK'.out _ _ (fun _ => hS2) ?_
      clear hK' K'
      try simp only [Act.put, List.getElem_toArray, List.getElem_cons_succ, List.getElem_cons_zero, List.setIfInBounds_toArray, List.set_cons_zero, List.set_cons_succ]
      refine wpAnyN_take (i := 9) (v := ?_) rfl (by as_aux_lemma => kernel_rfl) (by as_aux_lemma => kernel_rfl) (by as_aux_lemma => kernel_rfl) (by as_aux_lemma => kernel_rfl) (fun _ _ _ h => h) (by assumption) hS2 (Or.inl ⟨by rfl, ?_⟩) (fun hcl9 => ?_)
      rotate_left
      · (intro wS hSw; (obtain ⟨hSa, hSb⟩ := hSw); (have b1 := hSa 1 _ rfl); go_simp; (try with_reducible rfl))
      clear hcl8
      try simp only [Act.put, List.getElem_toArray, List.getElem_cons_succ, List.getElem_cons_zero, List.setIfInBounds_toArray, List.set_cons_zero, List.set_cons_succ]
      refine wpAnyN_oneC (i := 10) (by as_aux_lemma => kernel_rfl) rfl (by assumption) (fun hcl10 K' hK' => ?_)
      clear hcl9
      go_simp
      skip
      refine hK'.out _ _ (fun h => absurd h (by decide)) ?_
      clear hK' K'
      try simp only [Act.put, List.getElem_toArray, List.getElem_cons_succ, List.getElem_cons_zero, List.setIfInBounds_toArray, List.set_cons_zero, List.set_cons_succ]
      refine wpAnyN_done (by as_aux_lemma => kernel_rfl) ?_ _
      refine NoPanic.normal ?_
      have hhp := hvz.1
      have huz := hvz.2.1
      have hkey : putAt d.l K (bP pb) = d.l.set K (some (bP pb)) := by
        unfold putAt
        rw [HV2.out.2.2.2.1, List.getElem?_map, HX.out]
        rfl
      have hroomL : ∀ q, room (.slice (some ⟨bl, ol, none⟩) ls'.length cl) = some q → cwr p (.slice (some ⟨bl, ol, none⟩) ls'.length cl) q := fun q hq => .inr hq
      have HFIN := Lib.hid (show ∃ ls2, ChV base _ p (.slice (some ⟨bl, ol, none⟩) ls'.length cl) ls2 { d with l := putAt d.l K (bP pb) } dn false ∧ Upd (cwr p vl) W _ ∧ ∀ q, cfoot p (.slice (some ⟨bl, ol, none⟩) ls'.length cl) ls2 q → cfoot p vl ls q ∨ W.heap.size ≤ q from by
        refine ⟨_, by rw [hkey]; exact hhp, Upd.trans (Same.trans hu4 (Same.trans hal hsn)) huz (fun q hq e => ?_), fun q hq => ?_⟩
        · rcases HU2.out.2.2 q (hroomL q e) with h | h
          · exact h
          · omega
        · rcases hq with hq | hq | ⟨y, hy, hq⟩
          · exact HU2.out.2.1 q (.inl hq)
          · exact HU2.out.2.1 q (.inr (.inl hq))
          · rcases List.mem_or_eq_of_mem_set hy with hy | rfl
            · exact HU2.out.2.1 q (.inr (.inr ⟨y, hy, hq⟩))
            · have h1 := (hfn.ge q hq).1
              have h2 := hu4.size
              have h3 := hal.size
              exact .inr (by omega))
      clear hvz hhp huz hkey hroomL hS0 hS1 hS2 hal hsn hfn hfra hfr4 hu4 hv4 hvw c9 f9
      go_wp2_with fail
      go_meet
      exact HFIN.out
    · have hput : putAt d.l K (bP pb) = d.l := by
        unfold putAt
        rw [HV2.out.2.2.2.1, List.getElem?_map, HX.out]
        rfl
      have HPUT := Lib.hid hput
      clear hput
      go_wp2_with fail
      go_meet
      exact ⟨ls', by rw [HPUT.out]; exact HV3.out, HU3.out, HU2.out.2.1⟩
  case rest =>
  obtain ⟨ls2, hv2, hu2, hft2⟩ := hcut
  have hb2 := hv2.bump (d.added + 1)
  have hDv : D = { d with l := putAt d.l K (bP pb), added := d.added + 1 } := by
    have hkK : (kP pb).toNat = K := by rw [← HV.out.2.1, Int.toNat_natCast]
    rw [HD.out]
    unfold Cs.add
    rw [← HE.out, HE0.out, if_pos rfl, ← HDD.out, hkK, HDF.out.2.2]
  have HFIN := Lib.hid (show ChG base W p vl ls (wc.setCell ⟨p, 3, none⟩ (.int .i64 (d.added + 1))) D dn false from by
    refine ⟨_, ls2, by rw [hDv]; exact hb2.1, Upd.trans hu2 hb2.2 (fun q hq e => .inl e), hft2⟩)
  have c3 := hv2.2.1.1 3 _ rfl
  have fz := hv2.2.1.2
  have hda : 0 ≤ d.added ∧ d.added ≤ 1000000000000 := by rw [HDF.out.2.2]; have := HADD.out; omega
  clear hb2 hDv hv2 hu2 hft2
  go_wp2_with fail
  refine (add_any _ d.added 1 wc c3 (fz 3) hda (by decide)).mono ?_
  rintro e w9 ⟨rfl, rfl⟩
  go_wp2_with fail
  go_ret
  exact ⟨by rw [HE0.out]; rfl, HFIN.out⟩
end Go.Proofs.Ytccbkagmglddfaa
