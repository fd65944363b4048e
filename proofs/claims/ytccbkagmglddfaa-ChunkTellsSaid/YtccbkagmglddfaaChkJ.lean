/- chunk.Join. -/
import Derived.Test.YtccbkagmglddfaaChkK
namespace Go.Proofs.Ytccbkagmglddfaa
open Go.RowKit
set_option linter.unusedVariables false
set_option linter.unusedSimpArgs false
set_option maxRecDepth 100000
set_option maxHeartbeats 4000000
/-- Pieces one behind the other. -/
def jn (c : Cs) : List (List UInt8) → Int × Cs
  | [] => (0, c)
  | p :: ps => if c.addE p = 0 then jn (c.add p) ps else (c.addE p, c)
def joinE (ls : List (List UInt8)) : Int := if (jn Cs.none ls).1 ≠ 0 then (jn Cs.none ls).1 else if (jn Cs.none ls).2.whole.isSome then 0 else 10
def joinB (ls : List (List UInt8)) : List UInt8 := if (jn Cs.none ls).1 ≠ 0 then [] else (jn Cs.none ls).2.whole.getD []
theorem Bs.low {w w' : World} {v : Value} {bs : List UInt8} (h : Bs w v bs) {B : Nat} (hB : w.heap.size ≤ B) (hu : LowK B w w') : Bs w' v bs := by
  by_cases h0 : bs = []
  · subst h0
    obtain ⟨A, cap, rfl, h1, h2, -⟩ := h
    exact ⟨A, cap, rfl, h1, h2, .inl rfl⟩
  · exact h.upd hu (fun k hk e => by have := h.block_lt h0 k hk; omega)
theorem Rdr.low {w w' : World} {v : Value} {cs : List Value} (h : Rdr w v 1 cs) {B : Nat} (hB : w.heap.size ≤ B) (hu : LowK B w w') : Rdr w' v 1 cs := by
  obtain ⟨A, n, cap, rfl, h1, h2, h3, h4⟩ := h
  refine ⟨A, n, cap, rfl, h1, h2, h3, ?_⟩
  rcases h4 with h4 | ⟨b, off, rfl, hc⟩
  · exact .inl h4
  · refine .inr ⟨b, off, rfl, fun j u hj => ?_⟩
    have h5 := hc j u hj
    have h6 := World.block_lt_of_cell? w _ h5
    exact hu.cell h5 (by show ¬ B ≤ b; have : b < w.heap.size := h6; omega)
theorem RowsAt.low {w w' : World} {v : Value} {ss : List (Value × List UInt8)} (h : RowsAt w v ss) {B : Nat} (hB : w.heap.size ≤ B) (hu : LowK B w w') : RowsAt w' v ss := ⟨h.1.low hB hu, fun x hx => (h.2 x hx).low hB hu⟩
theorem RowsAt.at_ {w : World} {A : Option Addr} {n cap : Nat} {ss : List (Value × List UInt8)} (h : RowsAt w (.slice A n cap) ss) {k : Nat} {bs : List UInt8} (hk : (ss.map (·.2))[k]? = some bs) :
    ∃ b off B c, A = some ⟨b, off, none⟩ ∧ w.cell? ⟨b, off + k, none⟩ = some (.slice B bs.length c) ∧ Bs w (.slice B bs.length c) bs := by
  rw [List.getElem?_map] at hk
  obtain ⟨x, hx, rfl⟩ := Option.map_eq_some_iff.1 hk
  have hlt : k < (ss.map (·.1)).length := by rw [List.length_map]; exact (List.getElem?_eq_some_iff.1 hx).1
  obtain ⟨b, off, rfl, hc⟩ := h.1.at_ k hlt
  have hb := h.2 x (List.mem_of_getElem? hx)
  obtain ⟨B, c, e, h1⟩ := id hb
  rw [e] at hb
  refine ⟨b, off, B, c, rfl, ?_, hb⟩
  rw [hc, List.getElem_map]
  obtain ⟨_, e2⟩ := List.getElem?_eq_some_iff.1 hx
  rw [e2, e]
theorem RowsAt.len {w : World} {A : Option Addr} {n cap : Nat} {ss : List (Value × List UInt8)} (h : RowsAt w (.slice A n cap) ss) : n = ss.length ∧ n ≤ cap ∧ cap ≤ 9223372036854775807 := by
  obtain ⟨_, _, _, e, h1, h2, h3, _⟩ := h.1
  injection e with e1 e2 e3
  subst e2 e3
  exact ⟨by simpa using h1.symm, h2, h3⟩
theorem jn_step {c : Cs} {ls : List (List UInt8)} {i : Nat} {p : List UInt8} (hp : ls[i]? = some p) : jn c (ls.drop i) = if c.addE p = 0 then jn (c.add p) (ls.drop (i + 1)) else (c.addE p, c) := by
  obtain ⟨hi, rfl⟩ := List.getElem?_eq_some_iff.1 hp
  rw [List.drop_eq_getElem_cons hi, jn]
theorem join_any (A : Option Addr) (n cap : Nat) (ss : List (Value × List UInt8)) (W : World) (h : RowsAt W (.slice A n cap) ss) (hl : ∀ x ∈ ss, x.2.length ≤ 140737488351232) (hn : n ≤ 100000) :
    Calls Try.prog 20 #[.slice A n cap] W fun e w' => ∃ B m c, e = .returned (.tuple #[.slice B m c, .int .i64 (joinE (ss.map (·.2)))]) ∧ Fresh W.heap.size w' (.slice B m c) (joinB (ss.map (·.2))) ∧ Same W w' := by
  have hlen := h.len
  obtain ⟨ls, hls⟩ : ∃ ls, ls = ss.map (·.2) := ⟨_, rfl⟩
  have hE : joinE ls = if (jn Cs.none ls).1 ≠ 0 then (jn Cs.none ls).1 else if (jn Cs.none ls).2.whole.isSome then 0 else 10 := rfl
  have hB : joinB ls = if (jn Cs.none ls).1 ≠ 0 then [] else (jn Cs.none ls).2.whole.getD [] := rfl
  rw [← hls]
  obtain ⟨E, hEE⟩ : ∃ E, E = joinE ls := ⟨_, rfl⟩
  obtain ⟨BB, hBB⟩ : ∃ E, E = joinB ls := ⟨_, rfl⟩
  rw [← hEE, ← hBB]
  rw [← hEE] at hE
  rw [← hBB] at hB
  have HE := Lib.hid hE
  have HB := Lib.hid hB
  have H := Lib.hid h
  have HLS := Lib.hid hls
  have HNL := Lib.hid (show n = ls.length from by rw [hls, List.length_map]; exact hlen.1)
  have hnc := hlen.2.1
  have HLL := Lib.hid (show ∀ (i : Nat) (p : List UInt8), ls[i]? = some p → p.length ≤ 140737488351232 from fun i p hp => by
    rw [hls, List.getElem?_map] at hp
    obtain ⟨x, hx, rfl⟩ := Option.map_eq_some_iff.1 hp
    exact hl x (List.mem_of_getElem? hx))
  clear hE hB h hls hl hEE hBB hlen
  go_enter Try.func20, Try.ntmps20
  go_wp2_with fail
  refine (Rdy.new W).mono ?_
  rintro e w1 ⟨p, rfl, hr1⟩
  have HR1 := Lib.hid hr1
  clear hr1
  go_wp2_with fail
  go_loopw [13] (fun v13 wr => ∃ i : Nat, i ≤ n ∧ v13 = .int .i64 i ∧ Hid (∃ c, Rdy W wr p c ∧ jn Cs.none ls = jn c (ls.drop i) ∧ c.added ≤ i)) (fun v13 _ => n - (intOf v13).toNat)
  case atStart => exact ⟨0, by omega, rfl, _, HR1.out, rfl, by simp [Cs.none]⟩
  case round =>
    obtain ⟨i, hi, rfl, hin⟩ := hrel
    obtain ⟨c, hr, hj, had⟩ := hin.out
    have HR := Lib.hid hr
    have HJ := Lib.hid hj
    have HA := Lib.hid had
    clear hin hr hj had
    by_cases hlt : i < n
    · have g1 : (i : Int) < (n : Int) := by omega
      obtain ⟨q, hq⟩ : ∃ q, ls[i]? = some q := ⟨_, List.getElem?_eq_getElem (by have := HNL.out; omega)⟩
      obtain ⟨b1, o1, Ap, cp, rfl, xp, hbp⟩ := (H.out.low (Nat.le_refl _) HR.out.2.1).at_ (k := i) (by rw [← HLS.out]; exact hq)
      have hst := jn_step (c := c) hq
      have hql := HLL.out i q hq
      have hac := add_count c q
      have HADD := Lib.hid (HR.out.add (by have := HA.out; omega) Ap cp q hbp hql)
      have HST := Lib.hid hst
      have HAC := Lib.hid hac
      obtain ⟨e1, he1⟩ : ∃ e1, e1 = c.addE q := ⟨_, rfl⟩
      rw [← he1] at HADD HST
      generalize q.length = Lq at xp HADD
      clear hq hst hql hac hbp he1
      go_wp2_with fail
      refine HADD.out.mono ?_
      rintro e w2 ⟨rfl, hr2⟩
      by_cases he0 : e1 = 0
      · subst he0
        have HN2 := Lib.hid (show ∃ c, Rdy W w2 p c ∧ jn Cs.none ls = jn c (ls.drop (i + 1)) ∧ c.added ≤ ((i + 1 : Nat) : Int) from ⟨_, hr2, by rw [HJ.out, HST.out, if_pos rfl], by have := HAC.out; have := HA.out; omega⟩)
        clear hr2
        go_wp2_with fail
        go_roundw
        case rel => exact ⟨i + 1, by omega, by go_num, HN2.out⟩
        case measure => simp [intOf]; omega
      · have hb1 : (e1 != 0) = true := by simpa using he0
        have hjv : jn Cs.none ls = (e1, c) := by rw [HJ.out, HST.out, if_neg he0]
        have HE2 := Lib.hid (show E = e1 from by rw [HE.out, hjv, if_pos he0])
        have HB2 := Lib.hid (show BB = [] from by rw [HB.out, hjv, if_pos he0])
        have HS2 := Lib.hid (Same.into (Upd.refl (fun _ => False) W) hr2.2.1 (fun k hk => hk))
        clear hr2 he0 hjv
        go_wp2_with fail
        go_ret2
        exact ⟨_, _, _, by rw [HE2.out]; rfl, by rw [HB2.out]; exact Fresh.nil _ _, HS2.out⟩
    · obtain rfl : i = n := by omega
      have hjv : jn Cs.none ls = (0, c) := by rw [HJ.out, HNL.out, List.drop_length]; rfl
      obtain ⟨wh, hwh⟩ : ∃ x, x = c.whole := ⟨_, rfl⟩
      have HE2 := Lib.hid (show E = if wh.isSome then 0 else 10 from by rw [HE.out, hjv, hwh]; simp)
      have HB2 := Lib.hid (show BB = wh.getD [] from by rw [HB.out, hjv, hwh]; simp)
      have HWHL := Lib.hid HR.out.whole
      rw [← hwh] at HWHL
      clear hjv hwh
      go_wp2_with fail
      refine HWHL.out.mono ?_
      rintro e w2 ⟨A2, n2, c2, rfl, hf2, hs2, hr2⟩
      have HS2 := Lib.hid (Same.into (Upd.refl (fun _ => False) W) hr2.2.1 (fun k hk => hk))
      have HF2 := Lib.hid (hf2.mono HR.out.2.1.size)
      clear hf2 hs2 hr2
      cases wh with
      | none =>
        simp only [Option.isSome_none]
        go_wp2_with fail
        go_ret2
        exact ⟨_, _, _, by rw [HE2.out]; rfl, by rw [HB2.out]; exact Fresh.nil _ _, HS2.out⟩
      | some bb =>
        simp only [Option.isSome_some]
        go_wp2_with fail
        go_ret2
        exact ⟨_, _, _, by rw [HE2.out]; rfl, by rw [HB2.out]; exact HF2.out, HS2.out⟩
end Go.Proofs.Ytccbkagmglddfaa
