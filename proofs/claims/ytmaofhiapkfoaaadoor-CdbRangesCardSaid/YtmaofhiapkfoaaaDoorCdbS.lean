/- cdb.Size, and where a command's bytes are not 0. -/
import Derived.Test.YtmaofhiapkfoaaaDoorCdbK
namespace Go.Proofs.YtmaofhiapkfoaaaDoor
open Go.RowKit
set_option linter.unusedVariables false
set_option linter.unusedSimpArgs false
set_option maxRecDepth 20000
def sz8 : List Int := [6, 10, 10, 0, 16, 12, 0, 0]
/-- The table of sizes is laid. -/
structure Siz8 (w : World) : Prop where
  at_ : ∀ j, j < 8 → w.cell? ⟨0, j, none⟩ = some (.int .i64 (sz8.getD j 0))
theorem Siz8.same {w w' : World} (h : Siz8 w) (hs : Same w w') : Siz8 w' := ⟨fun j hj => hs.cell (h.at_ j hj) id⟩
def szK (k : Nat) : Int := sz8.getD (tb k 0 / 32).toNat 0
def sizeN (op : Int) : Int := match findK op with | none => 0 | some k => szK k
theorem szK_fit : ∀ k, k < 14 → (szK k = 6 ∨ szK k = 10 ∨ szK k = 12 ∨ szK k = 16) ∧ 0 ≤ tb k 0 / 32 ∧ tb k 0 / 32 < 8 := by decide +kernel
theorem szK_over : ∀ k, k < 14 → ∀ i, i < 6 → pSz k i = 0 ∨ pAt k i + pSz k i ≤ szK k - 1 := by decide +kernel
theorem size_any (op : Int) (w : World) (hT : Tab15 w) (hS : Siz8 w) (h1 : -9223372036854775808 ≤ op) (h2 : op ≤ 9223372036854775807) :
    Calls Tryd.prog 15 #[.int .i64 op] w fun e w' => e = .returned (.int .i64 (sizeN op)) ∧ Same w w' := by
  have hf := find_any op w hT h1 h2
  have hn0 : findK op = none → sizeN op = 0 := fun h => by unfold sizeN; rw [h]
  have hn1 : ∀ k, findK op = some k → sizeN op = szK k := fun k h => by unfold sizeN; rw [h]
  generalize sizeN op = n at hn0 hn1 ⊢
  have HF := Lib.hid hf
  have HN0 := Lib.hid hn0
  have HN1 := Lib.hid hn1
  have HS := Lib.hid hS
  clear hf hn0 hn1 hS hT
  go_enter Tryd.func15, Tryd.ntmps15
  go_wp2_with fail
  refine HF.out.mono ?_
  rintro e w1 ⟨hs1, ⟨hk, rfl⟩ | ⟨p, k, hk, rfl, hrow, hp⟩⟩
  · obtain rfl := HN0.out hk
    clear hk HN0 HN1
    go_wp2_with fail
    go_ret
    exact ⟨rfl, hs1⟩
  · obtain ⟨hk14, hko⟩ := findK_some hk
    obtain rfl := HN1.out k hk
    obtain ⟨_, g1, g2⟩ := szK_fit k hk14
    have hob := tb_i64 k hk14 0 (by omega)
    rw [hko] at hob g1 g2
    obtain ⟨m, hm⟩ : ∃ m : Nat, (m : Int) = op / 32 := ⟨(op / 32).toNat, by omega⟩
    have hc := (HS.out.same hs1).at_ m (by omega)
    have hsz : sz8.getD m 0 = szK k := by unfold szK; rw [hko, ← hm]; rfl
    rw [hsz] at hc
    have h32 : op / 2 ^ 5 = (m : Int) := by rw [hm]; rfl
    have hm8 : (m : Int) < 8 := by omega
    have HS1 := Lib.hid hs1
    rw [← hm] at g1 g2
    have hm' := hm.symm
    clear hk HN0 HN1 hko hsz hs1 hp hrow hm
    go_wp2_with fail
    go_ret
    exact ⟨rfl, HS1.out⟩
theorem putL_at (bs : List UInt8) (a s n : Int) (ht : thereB bs.length a s = true) (hf : fitsB n s = true) (j : Nat) (hj : (j : Int) < a ∨ a + s ≤ j) : at8 (putL bs a s n) j = at8 bs j := by
  have hts : 1 ≤ s ∧ s ≤ 8 ∧ 0 ≤ a ∧ a + s ≤ bs.length := by simpa [thereB] using ht
  have hL : putL bs a s n = bs.take a.toNat ++ numB n s.toNat ++ bs.drop (a + s).toNat := by unfold putL; rw [ht, hf]; rfl
  rw [hL]
  unfold at8
  have e1 : (bs.take a.toNat).length = a.toNat := by simp; omega
  rcases hj with hj | hj
  · rw [List.append_assoc, List.getD_eq_getElem?_getD, List.getElem?_append_left (by omega), List.getElem?_take_of_lt (by omega), List.getD_eq_getElem?_getD]
  · rw [List.getD_eq_getElem?_getD, List.getElem?_append_right (by simp [numB_length]; omega), List.getElem?_drop, List.getD_eq_getElem?_getD]
    congr 4
    simp [numB_length]
    omega
theorem bAt_at (k : Nat) (hk : k < 14) (v : Nat → Int) (j : Nat) (hj : j = 0 ∨ szK k - 1 ≤ j) : ∀ i, i ≤ 6 → (∀ j, j < i → tooB k j (v j) = false) → at8 (bAt k v i) j = at8 (bAt k v 0) j
  | 0, _, _ => rfl
  | i + 1, hi, h => by
    have ih := bAt_at k hk v j hj i (by omega) fun j hj => h j (by omega)
    have hl := bAt_length k hk v i (by omega) fun j hj => h j (by omega)
    rw [← ih]
    conv => lhs; unfold bAt
    split
    · rfl
    · rename_i hs
      have hf := h i (by omega)
      have ho := szK_over k hk i (by omega)
      rcases place_fit k hk i (by omega) with hp | hp
      · exact absurd hp.1 hs
      · refine putL_at _ _ _ _ ?_ ?_ j ?_
        · rw [hl]; unfold thereB; simp; omega
        · unfold tooB at hf
          simp [hs] at hf
          exact hf.2
        · rcases hj with rfl | hj
          · left; omega
          · right; omega
theorem cL_at {c : Cmd} {k : Nat} (hk : findK c.op = some k) (h : cE c = 0) (j : Nat) (hj : j < 16) : (j = 0 → at8 (cL c) j = c.op) ∧ (szK k - 1 ≤ j → at8 (cL c) j = 0) := by
  obtain ⟨hk14, hko⟩ := findK_some hk
  have hob := tb_i64 k hk14 0 (by omega)
  have hb : buildK k (vN c) = 0 := by unfold cE buildE at h; rw [hk] at h; exact h
  have hL : cL c = bAt k (vN c) 6 := by unfold cL buildL; rw [hk]; simp only [if_pos hb]
  rw [hL]
  have hz := (buildK_zero hb).1
  constructor
  · rintro rfl
    rw [bAt_at k hk14 (vN c) 0 (.inl rfl) 6 (by omega) hz]
    unfold bAt at8
    rw [hko]
    rw [hko] at hob
    simp
    omega
  · intro hs
    rw [bAt_at k hk14 (vN c) j (.inr hs) 6 (by omega) hz]
    have h6 := (szK_fit k hk14).1
    have hj1 : j ≠ 0 := by omega
    unfold bAt at8
    obtain ⟨m, rfl⟩ : ∃ m, j = m + 1 := ⟨j - 1, by omega⟩
    have hz : ∀ (n m : Nat), ((List.replicate n (0 : UInt8)).getD m 0) = 0 := by
      intro n m
      rw [List.getD_eq_getElem?_getD, List.getElem?_replicate]
      split <;> rfl
    rw [List.getD_cons_succ, hz]
    rfl
end Go.Proofs.YtmaofhiapkfoaaaDoor
