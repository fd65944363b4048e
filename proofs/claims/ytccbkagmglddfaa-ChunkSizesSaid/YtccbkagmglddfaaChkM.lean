/- chunk.Reader: Missing; the law's missing and same. -/
import Derived.Test.YtccbkagmglddfaaChkV
namespace Go.Proofs.Ytccbkagmglddfaa
open Go.RowKit
set_option linter.unusedVariables false
set_option linter.unusedSimpArgs false
set_option maxRecDepth 100000
set_option maxHeartbeats 4000000
theorem box_cell (W : World) (v : Value) (t : TypeId) : (W.alloc (.cells #[v] t)).cell? ⟨W.heap.size, 0, none⟩ = some v := by
  have h : (W.alloc (.cells #[v] t)).heap[W.heap.size]? = some (.cells #[v] t) := heap_alloc_new W _
  rw [cell_of_row _ _ _ _ _ (0, 0) h]
  rfl
/-- Ask: the answer, and who waits then. -/
def mT (l : List (Option (List UInt8))) (k : Nat) : List Int := ((List.range k).filter fun j => l[j]? == some Option.none : List Nat).map fun (j : Nat) => (j : Int)
theorem mT_all (l : List (Option (List UInt8))) : mT l l.length = missL l := rfl
theorem mT_succ (l : List (Option (List UInt8))) (k : Nat) : mT l (k + 1) = mT l k ++ if l[k]? == some Option.none then [(k : Int)] else [] := by
  unfold mT
  rw [List.range_succ, List.filter_append, List.map_append]
  congr 1
  cases h : (l[k]? == some Option.none) <;> simp [h]
theorem mT_le (l : List (Option (List UInt8))) (k : Nat) : (mT l k).length ≤ k := by
  unfold mT
  rw [List.length_map]
  exact Nat.le_trans (List.length_filter_le _ _) (by simp)
theorem numC_one (xs : List Int) : ∀ y ∈ xs.map numC, y.oneCell' = true := by
  intro y hy
  obtain ⟨x, _, rfl⟩ := List.mem_map.1 hy
  rfl
section
variable {base : Nat} {W : World} {p : Nat} {vl : Value} {ls : List It} {c : Cs} {dn : Int} {sh : Bool}
theorem chmiss_any (h : ChV base W p vl ls c dn sh) (hlen : c.l.length ≤ 256) :
    Calls Try.prog 44 #[.pointer (some ⟨p, 0, none⟩)] W fun e w' => ∃ Bs oA oc, e = .returned (.func (.func 80) #[] #[.pointer (some ⟨Bs, 0, none⟩)]) ∧ w'.cell? ⟨Bs, 0, none⟩ = some (.slice oA (missL c.l).length oc) ∧
      Own W.heap.size w' (.slice oA (missL c.l).length oc) 1 ((missL c.l).map numC) ∧ Same W w' := by
  obtain ⟨A, cap, rfl, h1, h2⟩ := h.len
  have hll := h.llen
  have H := Lib.hid h
  have HAT := Lib.hid (fun k x hx => h.at_ (k := k) (x := x) hx)
  have c2 := h.2.1.1 2 _ rfl
  obtain ⟨M, hM⟩ : ∃ M, M = missL c.l := ⟨_, rfl⟩
  rw [← hM]
  have HM := Lib.hid hM
  obtain ⟨N, hN⟩ : ∃ N, N = ls.length := ⟨_, rfl⟩
  rw [← hN] at h1 c2 H
  have HN := Lib.hid hN
  have hN256 : N ≤ 256 := by omega
  clear hM hN hll h hlen
  go_enter Try.func44, Try.ntmps44
  go_wp2_with fail
  go_loopw [3, 13] (fun v3 v13 wr => ∃ (k : Nat) (B : Option Addr) (m cb : Nat), k ≤ N ∧ v13 = .int .i64 k ∧ v3 = .slice B m cb ∧ Hid (Own W.heap.size wr (.slice B m cb) 1 ((mT c.l k).map numC) ∧ Same W wr)) (fun _ v13 _ => N - (intOf v13).toNat)
  case atStart => exact ⟨0, none, 0, 0, by omega, rfl, rfl, Own.nil _ _ _, Upd.refl _ _⟩
  case round =>
    obtain ⟨k, B, m, cb, hk, rfl, rfl, hin⟩ := hrel
    by_cases hlt : k < N
    · have hkl : k < ls.length := by have := HN.out; omega
      obtain ⟨x, hx⟩ : ∃ x, ls[k]? = some x := ⟨_, List.getElem?_eq_getElem hkl⟩
      obtain ⟨b', off, rfl, x0⟩ := HAT.out k x hx
      obtain ⟨Ax, nx, cx, hxv, hxn⟩ := (H.out.2.2.2.2.1 x (List.mem_of_getElem? hx)).val
      rw [hxv] at x0
      have x1 := hin.out.2.cell x0 id
      have g1 : (k : Int) < (N : Int) := by omega
      have hcl : c.l[k]? = some x.2 := by rw [H.out.2.2.2.1, List.getElem?_map, hx]; rfl
      have hs := mT_succ c.l k
      rw [hcl] at hs
      have hml := mT_le c.l k
      have HIN := Lib.hid hin.out
      have hmm : m = (mT c.l k).length := by
        obtain ⟨_, _, _, e, h1, _⟩ := hin.out.1
        injection e with _ e2 _
        subst e2
        simpa using h1.symm
      have HMM := Lib.hid hmm
      have HML := Lib.hid hml
      clear hx hxv hcl hml hin hmm
      go_wp2_with fail
      refine (lacks_any Ax nx cx wr).mono ?_
      rintro e w' ⟨rfl, rfl⟩
      rw [hxn]
      clear hxn
      cases hz : x.2 with
      | none =>
        rw [hz] at hs
        have HS := Lib.hid (show mT c.l (k + 1) = mT c.l k ++ [(k : Int)] from by rw [hs]; simp)
        clear hs hz
        simp only [Option.isNone_none]
        have hm256 : m ≤ 256 := by have := HML.out; have := HMM.out; omega
        go_wp2_with (at_builtin; refine wpl_append_own rfl (.tmp 20) (.tmp 22) 43 rfl Try.underlying43 hinfo_num3 rfl (by decide) (.slice B m cb) (.slice (some ⟨wr.heap.size, 0, none⟩) 1 1) rfl rfl (HIN.out.1.same ((Upd.refl _ _).alloc _)) (Rdr.box wr [.int .i64 (k : Int)] _ _ _ rfl 1 rfl) (by simp [Value.oneCell']) (by have := HIN.out.2.size; simp; omega) m 1 (by rw [List.length_map, HMM.out, Nat.mul_one]) rfl (by omega) (by omega) ?_; intro v10 w10 hf10 hu10 hr10; obtain ⟨A10, n10, c10, rfl, -⟩ := Own.open_ hf10; have HF10 := Lib.hid (And.intro hf10 (And.intro hu10 hr10)); clear hf10 hu10 hr10)
        go_roundw
        case rel => exact ⟨k + 1, A10, n10, c10, by omega, by go_num, rfl, by rw [HS.out, List.map_append]; exact HF10.out.1, Same.into (HIN.out.2.alloc _) HF10.out.2.1 (fun j hj => (HIN.out.1.ge (by decide) j hj).1)⟩
        case measure => simp [intOf]; omega
      | some b =>
        rw [hz] at hs
        have HS := Lib.hid (show mT c.l (k + 1) = mT c.l k from by rw [hs]; simp)
        clear hs hz
        simp only [Option.isNone_some]
        go_wp2_with fail
        go_roundw
        case rel => exact ⟨k + 1, B, m, cb, by omega, by go_num, rfl, by rw [HS.out]; exact HIN.out.1, HIN.out.2⟩
        case measure => simp [intOf]; omega
    · obtain rfl : k = N := by omega
      have hMe : mT c.l k = M := by rw [HM.out, HN.out, ← mT_all, H.out.2.2.2.1, List.length_map]
      have HIN := Lib.hid hin.out
      rw [hMe] at HIN
      have hmm : m = M.length := by
        obtain ⟨_, _, _, e, h1, _⟩ := HIN.out.1
        injection e with _ e2 _
        subst e2
        simpa using h1.symm
      subst hmm
      clear hin hMe
      go_wp2_with fail
      refine (values_any B M.length cb wr).mono ?_
      rintro e w' ⟨rfl, rfl⟩
      have HS2 := Lib.hid (HIN.out.2.alloc (.cells #[.slice B M.length cb] 43))
      have HO2 := Lib.hid (HIN.out.1.same ((Upd.refl (fun _ => False) wr).alloc (.cells #[.slice B M.length cb] 43)))
      have HC2 := Lib.hid (box_cell wr (.slice B M.length cb) 43)
      go_wp2_with fail
      go_ret
      exact ⟨_, _, _, rfl, HC2.out, HO2.out, HS2.out⟩
end
theorem chmiss_nil (W : World) :
    Calls Try.prog 44 #[.pointer none] W fun e w' => ∃ Bs oA oc, e = .returned (.func (.func 80) #[] #[.pointer (some ⟨Bs, 0, none⟩)]) ∧ w'.cell? ⟨Bs, 0, none⟩ = some (.slice oA ([] : List Int).length oc) ∧
      Own W.heap.size w' (.slice oA ([] : List Int).length oc) 1 (([] : List Int).map numC) ∧ Same W w' := by
  go_enter Try.func44, Try.ntmps44
  go_wp2_with fail
  refine (values_any none 0 0 W).mono ?_
  rintro e w' ⟨rfl, rfl⟩
  have HC2 := Lib.hid (box_cell W (.slice none 0 0) 43)
  go_wp2_with fail
  go_ret
  exact ⟨_, _, _, rfl, HC2.out, Own.nil _ _ _, (Upd.refl _ W).alloc _⟩
theorem missOf_any {base : Nat} {W : World} {p : Nat} {vl : Value} {ls : List It} {c : Cs} {dn : Int} {sh : Bool} (h : ChV base W p vl ls c dn sh) (hlen : c.l.length ≤ 256) :
    Calls Try.prog 23 #[.pointer (some ⟨p, 0, none⟩)] W fun e w' => ∃ A cap, e = .returned (.slice A (missL c.l).length cap) ∧ Own W.heap.size w' (.slice A (missL c.l).length cap) 1 ((missL c.l).map numC) ∧ Same W w' := by
  have hm : (missL c.l).length ≤ 256 := by have := mT_le c.l c.l.length; rw [mT_all] at this; omega
  refine (missLaw_any _ (missL c.l) (by omega) W ?_).mono ?_
  · refine (chmiss_any (h.same ((Upd.refl (fun _ => False) W).alloc (.cells #[.slice none 0 0] 43))) hlen).mono ?_
    rintro e w' ⟨Bs, oA, oc, h1, h2, h3, h4⟩
    exact ⟨Bs, oA, oc, h1, h2, by simpa using h3, h4⟩
  · rintro e w' ⟨vo, rfl, ho, hs⟩
    obtain ⟨A, n, cap, rfl, h1, -⟩ := ho.open_
    have : (missL c.l).length = n := by simpa using h1
    subst this
    exact ⟨A, cap, rfl, ho, hs⟩
theorem missNil_any (W : World) :
    Calls Try.prog 23 #[.pointer none] W fun e w' => ∃ A cap, e = .returned (.slice A 0 cap) ∧ Same W w' := by
  refine (missLaw_any _ [] (by simp) W ?_).mono ?_
  · refine (chmiss_nil _).mono ?_
    rintro e w' ⟨Bs, oA, oc, h1, h2, h3, h4⟩
    exact ⟨Bs, oA, oc, h1, h2, by simpa using h3, h4⟩
  · rintro e w' ⟨vo, rfl, ho, hs⟩
    obtain ⟨A, n, cap, rfl, h1, -⟩ := ho.open_
    have : n = 0 := by simpa using h1.symm
    subst this
    exact ⟨A, cap, rfl, hs⟩
end Go.Proofs.Ytccbkagmglddfaa
