/- What is built is read back. Plain Lean. -/
import Derived.Test.YtmaofhiapkfoaaaDoorCdbS
import Derived.Test.YtmaofhiapkfoaaaDoorEq
namespace Go.Proofs.YtmaofhiapkfoaaaDoor
open Go.RowKit
set_option linter.unusedVariables false
set_option linter.unusedSimpArgs false
set_option maxRecDepth 20000
theorem getN_eq {xs ys : List UInt8} (hl : xs.length = ys.length) (a s : Int) (h : ∀ j : Nat, a ≤ j → (j : Int) < a + s → at8 xs j = at8 ys j) : getN xs a s = getN ys a s := by
  unfold getN
  rw [hl]
  split
  · rename_i ht
    have hts : 1 ≤ s ∧ s ≤ 8 ∧ 0 ≤ a ∧ a + s ≤ ys.length := by simpa [thereB] using ht
    have e : (xs.drop a.toNat).take s.toNat = (ys.drop a.toNat).take s.toNat := by
      refine at8_eq (by simp [hl]) fun j hj => ?_
      have hj' : j < s.toNat := by simp at hj; omega
      have := h (a.toNat + j) (by omega) (by omega)
      unfold at8 at this ⊢
      simpa [List.getD_eq_getElem?_getD, List.getElem?_take, hj', List.getElem?_drop] using this
    rw [e]
  · rfl
theorem getN_putL (bs : List UInt8) (a s n : Int) (hn : 0 ≤ n) (ht : thereB bs.length a s = true) (hf : fitsB n s = true) : getN (putL bs a s n) a s = n := by
  have hts : 1 ≤ s ∧ s ≤ 8 ∧ 0 ≤ a ∧ a + s ≤ bs.length := by simpa [thereB] using ht
  have hfl : n < 256 ^ s.toNat := by simpa [fitsB] using hf
  have hL : putL bs a s n = bs.take a.toNat ++ numB n s.toNat ++ bs.drop (a + s).toNat := by unfold putL; rw [ht, hf]; rfl
  have hlen : (putL bs a s n).length = bs.length := by rw [hL]; simp [numB_length]; omega
  unfold getN
  rw [hlen, ht, hL]
  have e1 : (bs.take a.toNat).length = a.toNat := by simp; omega
  simp only [if_true]
  rw [List.append_assoc, List.drop_append_of_le_length (by omega), List.drop_eq_nil_of_le (by omega), List.nil_append, List.take_append_of_le_length (by rw [numB_length]; exact Nat.le_refl _), List.take_of_length_le (by rw [numB_length]; exact Nat.le_refl _)]
  exact valB_numB n s.toNat hn hfl
theorem apart15 : ∀ k, k < 14 → ∀ i, i < 6 → ∀ j, j < 6 → i = j ∨ pSz k i = 0 ∨ pSz k j = 0 ∨ pAt k i + pSz k i ≤ pAt k j ∨ pAt k j + pSz k j ≤ pAt k i := by decide +kernel
theorem getN_bAt (k : Nat) (hk : k < 14) (v : Nat → Int) (hv : ∀ i, 0 ≤ v i) (i : Nat) (hs : pSz k i ≠ 0) : ∀ m, i < m → m ≤ 6 → (∀ j, j < m → tooB k j (v j) = false) → getN (bAt k v m) (pAt k i) (pSz k i) = v i
  | m + 1, hm, h6, h => by
    have hl := bAt_length k hk v m (by omega) fun j hj => h j (by omega)
    have hstep : bAt k v (m + 1) = if pSz k m = 0 then bAt k v m else putL (bAt k v m) (pAt k m) (pSz k m) (v m) := rfl
    have hthere : pSz k m ≠ 0 → thereB (bAt k v m).length (pAt k m) (pSz k m) = true ∧ fitsB (v m) (pSz k m) = true := fun hs => by
      have hp := (place_fit k hk m (by omega)).resolve_left (fun h => hs h.1)
      have hf := h m (by omega)
      refine ⟨by rw [hl]; unfold thereB; simp; omega, ?_⟩
      unfold tooB at hf
      simp [hs] at hf
      exact hf.2
    by_cases hmi : m = i
    · subst hmi
      rw [hstep, if_neg hs]
      obtain ⟨h1, h2⟩ := hthere hs
      exact getN_putL _ _ _ _ (hv m) h1 h2
    · have ih := getN_bAt k hk v hv i hs m (by omega) (by omega) fun j hj => h j (by omega)
      rw [hstep]
      split
      · exact ih
      · rename_i hsm
        obtain ⟨h1, h2⟩ := hthere hsm
        rw [← ih]
        have hlen : (putL (bAt k v m) (pAt k m) (pSz k m) (v m)).length = (bAt k v m).length := by
          have hp := (place_fit k hk m (by omega)).resolve_left (fun h => hsm h.1)
          unfold putL
          rw [h1, h2]
          simp [numB_length, hl]
          omega
        refine getN_eq hlen _ _ fun j h3 h4 => putL_at _ _ _ _ h1 h2 j ?_
        rcases (apart15 k hk i (by omega) m (by omega)).resolve_left (Ne.symm hmi) with h | h | h | h
        · exact absurd h hs
        · exact absurd h hsm
        · left; omega
        · right; omega
theorem gN_bAt (k : Nat) (hk : k < 14) (v : Nat → Int) (hv : ∀ i, 0 ≤ v i) (h : buildK k v = 0) (i : Nat) (hi : i < 6) : gN k (bAt k v 6) i = v i := by
  obtain ⟨hz, ho⟩ := buildK_zero h
  unfold gN
  split
  · rename_i hs
    have := ho i hi
    unfold oddB at this
    simp [hs] at this
    exact this.symm
  · rename_i hs
    rw [getN_bAt k hk v hv i hs 6 hi (by omega) hz]
    split
    · rename_i hb
      have := hz i hi
      unfold tooB at this
      simp [hs, hb] at this
      have hp2 : (0 : Int) < 2 ^ (pBt k i).toNat := Int.pow_pos (by decide)
      have e := Int.mul_ediv_add_emod (v i) (2 ^ (pBt k i).toNat)
      rw [this.1] at e
      omega
    · rfl
theorem vN_small (c : Cmd) (hc : c.ok) {k : Nat} (hk : findK c.op = some k) (h : cE c = 0) (i : Nat) (hi : i < 6) (h4 : i ≠ 4) : vN c i ≤ 4294967295 := by
  have hk14 := (findK_some hk).1
  have hb : buildK k (vN c) = 0 := by unfold cE buildE at h; rw [hk] at h; exact h
  rw [← gN_bAt k hk14 (vN c) (fun i => (vN_range c hc i).1) hb i hi]
  exact (gN_small k hk14 _ i hi h4).2
/-- What is built is read back. -/
theorem parse_build (c : Cmd) (hc : c.ok) (h : cE c = 0) : parseE (cL c) = 0 ∧ parseC (cL c) = c := by
  have hlen := cL_length h
  cases hk : findK c.op with
  | none => unfold cE buildE at h; rw [hk] at h; simp at h
  | some k =>
    obtain ⟨hk14, hko⟩ := findK_some hk
    have hb : buildK k (vN c) = 0 := by unfold cE buildE at h; rw [hk] at h; exact h
    have hL : cL c = bAt k (vN c) 6 := by unfold cL buildL; rw [hk]; simp only [if_pos hb]
    have h0 := (cL_at hk h 0 (by omega)).1 rfl
    have hg := fun i hi => gN_bAt k hk14 (vN c) (fun i => (vN_range c hc i).1) hb i hi
    rw [← hL] at hg
    have hs := vN_small c hc hk h
    have hraw : rawC k (cL c) = c := by
      unfold rawC
      rw [hg 0 (by omega), hg 1 (by omega), hg 2 (by omega), hg 3 (by omega), hg 4 (by omega), hg 5 (by omega), hko]
      have s0 := hs 0 (by omega) (by omega)
      have s2 := hs 2 (by omega) (by omega)
      have s3 := hs 3 (by omega) (by omega)
      have s5 := hs 5 (by omega) (by omega)
      obtain ⟨op, service, page, vital, typ, lba, len⟩ := c
      obtain ⟨h0, h1, h2, h3, h4, h5⟩ := hc
      have e0 : vN ⟨op, service, page, vital, typ, lba, len⟩ 0 = u64w service := rfl
      have e1 : vN ⟨op, service, page, vital, typ, lba, len⟩ 1 = if vital then 1 else 0 := rfl
      have e2 : vN ⟨op, service, page, vital, typ, lba, len⟩ 2 = u64w page := rfl
      have e3 : vN ⟨op, service, page, vital, typ, lba, len⟩ 3 = u64w typ := rfl
      have e4 : vN ⟨op, service, page, vital, typ, lba, len⟩ 4 = lba := rfl
      have e5 : vN ⟨op, service, page, vital, typ, lba, len⟩ 5 = u64w len := rfl
      rw [e0] at s0 ⊢
      rw [e2] at s2 ⊢
      rw [e3] at s3 ⊢
      rw [e5] at s5 ⊢
      rw [e1, e4]
      simp only at h1 h2 h3 h5
      unfold u64w at *
      congr 1
      · omega
      · omega
      · cases vital <;> rfl
      · omega
      · omega
    unfold parseE parseC
    rw [if_pos hlen, if_pos hlen, h0, hk]
    simp only
    rw [hraw, if_pos ⟨h, rfl⟩, if_pos ⟨h, rfl⟩]
    exact ⟨rfl, rfl⟩
/-- A read or a write of some blocks: short, long. -/
def blk (op lba n : Int) : Cmd := ⟨op, 0, 0, false, 0, lba, n⟩
theorem blk_ok (op lba n : Int) (ho : 0 ≤ op ∧ op ≤ 255) (hl : 0 ≤ lba ∧ lba ≤ 4294967295) (hn : 0 ≤ n ∧ n ≤ 65535) : (blk op lba n).ok := by unfold Cmd.ok blk; simp only; omega
theorem tooB_of {k i : Nat} {n : Int} (h : pSz k i = 0 ∨ (pBt k i = 0 ∧ n < 256 ^ (pSz k i).toNat)) : tooB k i n = false := by
  unfold tooB
  rcases h with h | ⟨h1, h2⟩
  · simp [h]
  · simp [h1, fitsB, h2]
theorem oddB_of {k i : Nat} {n : Int} (h : pSz k i ≠ 0 ∨ n = 0) : oddB k i n = false := by
  unfold oddB
  rcases h with h | h <;> simp [h]
theorem blk_built (k : Nat) (hk : k = 4 ∨ k = 5 ∨ k = 10 ∨ k = 11) (lba n : Int) (hl : 0 ≤ lba ∧ lba ≤ 4294967295) (hn : 0 ≤ n ∧ n ≤ 65535) : cE (blk (tb k 0) lba n) = 0 := by
  have hf : findK (tb k 0) = some k := findK_of (by omega)
  unfold cE buildE
  have ho : (blk (tb k 0) lba n).op = tb k 0 := rfl
  rw [ho, hf]
  simp only
  have e : ∀ i, i < 6 → vN (blk (tb k 0) lba n) i = [0, 0, 0, 0, lba, n].getD i 0 := fun i hi => by
    have e5 : u64w n = n := by unfold u64w; omega
    rcases (show i = 0 ∨ i = 1 ∨ i = 2 ∨ i = 3 ∨ i = 4 ∨ i = 5 by omega) with rfl | rfl | rfl | rfl | rfl | rfl
    · rfl
    · rfl
    · rfl
    · rfl
    · rfl
    · exact e5
  have hp : ∀ k, (k = 4 ∨ k = 5 ∨ k = 10 ∨ k = 11) → (pSz k 0 = 0 ∧ pSz k 1 = 0 ∧ pSz k 2 = 0 ∧ pSz k 3 = 0) ∧ (pBt k 4 = 0 ∧ (pSz k 4 = 4 ∨ pSz k 4 = 8)) ∧ (pBt k 5 = 0 ∧ (pSz k 5 = 2 ∨ pSz k 5 = 4)) := by
    intro k hk
    rcases hk with rfl | rfl | rfl | rfl <;> decide
  obtain ⟨⟨p0, p1, p2, p3⟩, ⟨p4, p4'⟩, ⟨p5, p5'⟩⟩ := hp k hk
  unfold buildK
  rw [anyB_of, anyB_of]
  · rfl
  · intro i hi
    refine oddB_of ?_
    rw [e i hi]
    rcases (show i = 0 ∨ i = 1 ∨ i = 2 ∨ i = 3 ∨ i = 4 ∨ i = 5 by omega) with rfl | rfl | rfl | rfl | rfl | rfl
    · exact .inr rfl
    · exact .inr rfl
    · exact .inr rfl
    · exact .inr rfl
    · left; omega
    · left; omega
  · intro i hi
    refine tooB_of ?_
    rw [e i hi]
    rcases (show i = 0 ∨ i = 1 ∨ i = 2 ∨ i = 3 ∨ i = 4 ∨ i = 5 by omega) with rfl | rfl | rfl | rfl | rfl | rfl
    · exact .inl p0
    · exact .inl p1
    · exact .inl p2
    · exact .inl p3
    · refine .inr ⟨p4, ?_⟩
      show lba < _
      rcases p4' with h | h <;> rw [h]
      · exact Int.lt_of_le_of_lt hl.2 (by decide)
      · exact Int.lt_of_le_of_lt hl.2 (by decide)
    · refine .inr ⟨p5, ?_⟩
      show n < _
      rcases p5' with h | h <;> rw [h]
      · exact Int.lt_of_le_of_lt hn.2 (by decide)
      · exact Int.lt_of_le_of_lt hn.2 (by decide)
end Go.Proofs.YtmaofhiapkfoaaaDoor
