/- Commands as plain Lean: the table of operations, what Build and Parse compute. No program in sight. -/
import Derived.Test.YtmaofhiapkfoaaaDoorField
namespace Go.Proofs.YtmaofhiapkfoaaaDoor
open Go.RowKit
set_option linter.unusedVariables false
set_option linter.unusedSimpArgs false
set_option maxRecDepth 20000

/-- A place: first byte, bytes, bits. A row: an operation and six places. -/
abbrev Plc := Int × Int × Int
abbrev CRow := Int × List Plc
def rows15 : List CRow := [
  (0, [(0, 0, 0), (0, 0, 0), (0, 0, 0), (0, 0, 0), (0, 0, 0), (0, 0, 0)]),
  (37, [(0, 0, 0), (0, 0, 0), (0, 0, 0), (0, 0, 0), (0, 0, 0), (0, 0, 0)]),
  (3, [(0, 0, 0), (0, 0, 0), (0, 0, 0), (0, 0, 0), (0, 0, 0), (4, 1, 0)]),
  (18, [(0, 0, 0), (1, 1, 1), (2, 1, 0), (0, 0, 0), (0, 0, 0), (3, 2, 0)]),
  (40, [(0, 0, 0), (0, 0, 0), (0, 0, 0), (0, 0, 0), (2, 4, 0), (7, 2, 0)]),
  (42, [(0, 0, 0), (0, 0, 0), (0, 0, 0), (0, 0, 0), (2, 4, 0), (7, 2, 0)]),
  (53, [(0, 0, 0), (0, 0, 0), (0, 0, 0), (0, 0, 0), (2, 4, 0), (7, 2, 0)]),
  (66, [(0, 0, 0), (0, 0, 0), (0, 0, 0), (0, 0, 0), (0, 0, 0), (7, 2, 0)]),
  (94, [(1, 1, 5), (0, 0, 0), (0, 0, 0), (0, 0, 0), (0, 0, 0), (7, 2, 0)]),
  (95, [(1, 1, 5), (0, 0, 0), (0, 0, 0), (2, 1, 4), (0, 0, 0), (5, 4, 0)]),
  (136, [(0, 0, 0), (0, 0, 0), (0, 0, 0), (0, 0, 0), (2, 8, 0), (10, 4, 0)]),
  (138, [(0, 0, 0), (0, 0, 0), (0, 0, 0), (0, 0, 0), (2, 8, 0), (10, 4, 0)]),
  (160, [(0, 0, 0), (0, 0, 0), (2, 1, 0), (0, 0, 0), (0, 0, 0), (6, 4, 0)]),
  (163, [(1, 1, 5), (0, 0, 0), (0, 0, 0), (0, 0, 0), (0, 0, 0), (6, 4, 0)])]
def plcI (p : Plc) : List Int := [p.1, p.2.1, p.2.2]
def rowI (r : CRow) : List Int := r.1 :: r.2.flatMap plcI
/-- Number j of row k. -/
def tb (k j : Nat) : Int := (rowI (rows15.getD k (0, []))).getD j 0
def pAt (k i : Nat) : Int := tb k (3 * i + 1)
def pSz (k i : Nat) : Int := tb k (3 * i + 2)
def pBt (k i : Nat) : Int := tb k (3 * i + 3)
/-- An operation's row. -/
def findK (op : Int) : Option Nat := (List.range 14).find? fun k => tb k 0 == op
theorem findK_some {op : Int} {k : Nat} (h : findK op = some k) : k < 14 ∧ tb k 0 = op := by
  unfold findK at h
  have h1 := List.find?_some h
  have h2 := List.mem_of_find?_eq_some h
  exact ⟨by simpa using h2, by simpa using h1⟩
theorem findK_none {op : Int} (h : findK op = none) : ∀ k, k < 14 → tb k 0 ≠ op := by
  unfold findK at h
  rw [List.find?_eq_none] at h
  intro k hk
  simpa using h k (by simpa using hk)
theorem tb_op : ∀ k, k < 14 → ∀ j, j < 14 → tb k 0 = tb j 0 → k = j := by decide +kernel
theorem findK_of {k : Nat} (hk : k < 14) : findK (tb k 0) = some k := by
  cases h : findK (tb k 0) with
  | none => exact absurd rfl (findK_none h k hk)
  | some j =>
    obtain ⟨h1, h2⟩ := findK_some h
    rw [tb_op j h1 k hk h2]
theorem tb_i64 : ∀ k, k < 14 → ∀ j, j < 19 → 0 ≤ tb k j ∧ tb k j ≤ 255 := by decide +kernel
/-- What the table's places are like. -/
theorem place_fit : ∀ k, k < 14 → ∀ i, i < 6 → (pSz k i = 0 ∧ pAt k i = 0 ∧ pBt k i = 0) ∨ (1 ≤ pSz k i ∧ pSz k i ≤ 8 ∧ 1 ≤ pAt k i ∧ pAt k i + pSz k i ≤ 16 ∧ 0 ≤ pBt k i ∧ pBt k i ≤ 5 ∧ (pBt k i = 0 ∨ pSz k i = 1)) := by decide +kernel

/-- A number is more than its place takes; a number where there is no place. -/
def tooB (k i : Nat) (n : Int) : Bool := !(pSz k i == 0) && ((decide (0 < pBt k i) && !(n / 2 ^ (pBt k i).toNat == 0)) || !fitsB n (pSz k i))
def oddB (k i : Nat) (n : Int) : Bool := pSz k i == 0 && !(n == 0)
def anyB (f : Nat → Bool) : Nat → Bool
  | 0 => false
  | i + 1 => anyB f i || f i
theorem anyB_false {f : Nat → Bool} : ∀ {i : Nat}, anyB f i = false → ∀ j, j < i → f j = false
  | i + 1, h, j, hj => by
    simp only [anyB, Bool.or_eq_false_iff] at h
    rcases Nat.lt_succ_iff_lt_or_eq.1 hj with h' | rfl
    · exact anyB_false h.1 j h'
    · exact h.2
theorem anyB_of {f : Nat → Bool} : ∀ {i : Nat}, (∀ j, j < i → f j = false) → anyB f i = false
  | 0, _ => rfl
  | i + 1, h => by
    simp only [anyB, Bool.or_eq_false_iff]
    exact ⟨anyB_of fun j hj => h j (by omega), h i (by omega)⟩
theorem anyB_true {f : Nat → Bool} {i j : Nat} (hj : j < i) (h : f j = true) : anyB f i = true := by
  cases ha : anyB f i with
  | true => rfl
  | false => rw [anyB_false ha j hj] at h; cases h
/-- The bytes behind i fields. -/
def bAt (k : Nat) (v : Nat → Int) : Nat → List UInt8
  | 0 => UInt8.ofNat (tb k 0).toNat :: List.replicate 15 0
  | i + 1 => if pSz k i = 0 then bAt k v i else putL (bAt k v i) (pAt k i) (pSz k i) (v i)
theorem bAt_length (k : Nat) (hk : k < 14) (v : Nat → Int) : ∀ i, i ≤ 6 → (∀ j, j < i → tooB k j (v j) = false) → (bAt k v i).length = 16
  | 0, _, _ => by simp [bAt]
  | i + 1, hi, h => by
    have ih := bAt_length k hk v i (by omega) fun j hj => h j (by omega)
    unfold bAt
    split
    · exact ih
    · rename_i hs
      have hf := h i (by omega)
      rcases place_fit k hk i (by omega) with hp | hp
      · exact absurd hp.1 hs
      · have hfit : fitsB (v i) (pSz k i) = true := by
          unfold tooB at hf
          simp [hs] at hf
          exact hf.2
        have ht : thereB 16 (pAt k i) (pSz k i) = true := by unfold thereB; simp; omega
        unfold putL
        rw [ih, ht, hfit]
        simp [numB_length, ih]
        omega
def buildK (k : Nat) (v : Nat → Int) : Int := if anyB (fun i => tooB k i (v i)) 6 then 3 else if anyB (fun i => oddB k i (v i)) 6 then 11 else 0
def buildE (op : Int) (v : Nat → Int) : Int := match findK op with | none => 1 | some k => buildK k v
def buildL (op : Int) (v : Nat → Int) : List UInt8 := match findK op with | none => [] | some k => if buildK k v = 0 then bAt k v 6 else []

/-- A command. -/
structure Cmd where
  op : Int
  service : Int
  page : Int
  vital : Bool
  typ : Int
  lba : Int
  len : Int
abbrev u64w (n : Int) : Int := n % 18446744073709551616
/-- Its fields' values. -/
def vals (c : Cmd) : List Int := [u64w c.service, if c.vital then 1 else 0, u64w c.page, u64w c.typ, c.lba, u64w c.len]
def vN (c : Cmd) (i : Nat) : Int := (vals c).getD i 0
def Cmd.ok (c : Cmd) : Prop := (-9223372036854775808 ≤ c.op ∧ c.op ≤ 9223372036854775807) ∧ (-9223372036854775808 ≤ c.service ∧ c.service ≤ 9223372036854775807) ∧ (-9223372036854775808 ≤ c.page ∧ c.page ≤ 9223372036854775807) ∧
  (-9223372036854775808 ≤ c.typ ∧ c.typ ≤ 9223372036854775807) ∧ (0 ≤ c.lba ∧ c.lba ≤ 18446744073709551615) ∧ (-9223372036854775808 ≤ c.len ∧ c.len ≤ 9223372036854775807)
theorem vN_range (c : Cmd) (h : c.ok) (i : Nat) : 0 ≤ vN c i ∧ vN c i ≤ 18446744073709551615 := by
  obtain ⟨h0, h1, h2, h3, h4, h5⟩ := h
  unfold vN vals u64w
  match i with
  | 0 => simp; omega
  | 1 => cases c.vital <;> simp
  | 2 => simp; omega
  | 3 => simp; omega
  | 4 => simp; omega
  | 5 => simp; omega
  | n + 6 => simp
/-- The cells of a command. -/
def Cmd.cells (c : Cmd) : Array Value := #[.int .i64 c.op, .int .i64 c.service, .int .i64 c.page, .bool c.vital, .int .i64 c.typ, .int .u64 c.lba, .int .i64 c.len]
def cE (c : Cmd) : Int := buildE c.op (vN c)
def cL (c : Cmd) : List UInt8 := buildL c.op (vN c)
theorem cE_range (c : Cmd) : 0 ≤ cE c ∧ cE c ≤ 11 := by
  unfold cE buildE
  split
  · omega
  · unfold buildK
    split
    · omega
    · split <;> omega
theorem buildK_zero {k : Nat} {v : Nat → Int} (h : buildK k v = 0) : (∀ j, j < 6 → tooB k j (v j) = false) ∧ ∀ j, j < 6 → oddB k j (v j) = false := by
  unfold buildK at h
  split at h
  · omega
  · rename_i h1
    split at h
    · omega
    · rename_i h2
      exact ⟨anyB_false (by simpa using h1), anyB_false (by simpa using h2)⟩
theorem cL_length {c : Cmd} (h : cE c = 0) : (cL c).length = 16 := by
  unfold cE buildE at h
  unfold cL buildL
  cases hk : findK c.op with
  | none => rw [hk] at h; simp at h
  | some k =>
    rw [hk] at h
    simp only at h ⊢
    rw [if_pos h]
    exact bAt_length k (findK_some hk).1 _ 6 (by omega) (buildK_zero h).1

theorem emod_le' {x m : Int} (hx : 0 ≤ x) (hm : 0 < m) : x % m ≤ x := by
  have h1 := Int.mul_ediv_add_emod x m
  have h2 := Int.mul_nonneg (Int.le_of_lt hm) (Int.ediv_nonneg hx (Int.le_of_lt hm))
  omega
/-- A field of some bytes, as Parse reads it. -/
def gN (k : Nat) (bs : List UInt8) (i : Nat) : Int := if pSz k i = 0 then 0 else if 0 < pBt k i then getN bs (pAt k i) (pSz k i) % 2 ^ (pBt k i).toNat else getN bs (pAt k i) (pSz k i)
theorem getN_range (bs : List UInt8) (a s : Int) (h1 : 1 ≤ s) (h8 : s ≤ 8) : 0 ≤ getN bs a s ∧ getN bs a s < 256 ^ s.toNat := by
  unfold getN
  split
  · have hr := valB_range ((bs.drop a.toNat).take s.toNat)
    refine ⟨hr.1, Int.lt_of_lt_of_le hr.2 ?_⟩
    have hl : ((bs.drop a.toNat).take s.toNat).length ≤ s.toNat := by rw [List.length_take]; omega
    have h2 : ((256 ^ ((bs.drop a.toNat).take s.toNat).length : Nat) : Int) ≤ ((256 ^ s.toNat : Nat) : Int) := Int.ofNat_le.2 (Nat.pow_le_pow_right (by decide) hl)
    simpa [Int.natCast_pow] using h2
  · exact ⟨by omega, Int.pow_pos (by decide)⟩
theorem pow256_le (s : Int) (h8 : s ≤ 8) : (256 : Int) ^ s.toNat ≤ 18446744073709551616 := by
  have h2 : ((256 ^ s.toNat : Nat) : Int) ≤ ((256 ^ 8 : Nat) : Int) := Int.ofNat_le.2 (Nat.pow_le_pow_right (by decide) (by omega))
  rw [Int.natCast_pow] at h2
  exact Int.le_trans h2 (by decide)
theorem gN_range (k : Nat) (hk : k < 14) (bs : List UInt8) (i : Nat) (hi : i < 6) : 0 ≤ gN k bs i ∧ gN k bs i ≤ 18446744073709551615 := by
  unfold gN
  rcases place_fit k hk i hi with hp | hp
  · simp [hp.1]
  · have h0 : ¬ pSz k i = 0 := by omega
    rw [if_neg h0]
    have hr := getN_range bs (pAt k i) (pSz k i) hp.1 hp.2.1
    have h8 := pow256_le (pSz k i) hp.2.1
    split
    · have hp2 : (0 : Int) < 2 ^ (pBt k i).toNat := Int.pow_pos (by decide)
      have h1 := Int.emod_nonneg (getN bs (pAt k i) (pSz k i)) (Int.ne_of_gt hp2)
      have h2 : getN bs (pAt k i) (pSz k i) % 2 ^ (pBt k i).toNat ≤ getN bs (pAt k i) (pSz k i) := emod_le' hr.1 (Int.pow_pos (by decide))
      omega
    · omega
/-- All of them but the first block's number are short. -/
theorem size_four : ∀ k, k < 14 → ∀ i, i < 6 → i ≠ 4 → pSz k i ≤ 4 := by decide +kernel
theorem gN_small (k : Nat) (hk : k < 14) (bs : List UInt8) (i : Nat) (hi : i < 6) (h4 : i ≠ 4) : 0 ≤ gN k bs i ∧ gN k bs i ≤ 4294967295 := by
  have h0 := gN_range k hk bs i hi
  refine ⟨h0.1, ?_⟩
  unfold gN
  rcases place_fit k hk i hi with hp | hp
  · simp [hp.1]
  · have h0 : ¬ pSz k i = 0 := by omega
    rw [if_neg h0]
    have hr := getN_range bs (pAt k i) (pSz k i) hp.1 hp.2.1
    have h8 : (256 : Int) ^ (pSz k i).toNat ≤ 4294967296 := by
      have h4' := size_four k hk i hi h4
      have h2 : ((256 ^ (pSz k i).toNat : Nat) : Int) ≤ ((256 ^ 4 : Nat) : Int) := Int.ofNat_le.2 (Nat.pow_le_pow_right (by decide) (by omega))
      rw [Int.natCast_pow] at h2
      exact Int.le_trans h2 (by decide)
    split
    · have h2 : getN bs (pAt k i) (pSz k i) % 2 ^ (pBt k i).toNat ≤ getN bs (pAt k i) (pSz k i) := emod_le' hr.1 (Int.pow_pos (by decide))
      omega
    · omega
def rawC (k : Nat) (bs : List UInt8) : Cmd := ⟨tb k 0, gN k bs 0, gN k bs 2, gN k bs 1 == 1, gN k bs 3, gN k bs 4, gN k bs 5⟩
theorem rawC_ok (k : Nat) (hk : k < 14) (bs : List UInt8) : (rawC k bs).ok := by
  have h0 := gN_small k hk bs 0 (by omega) (by omega)
  have h2 := gN_small k hk bs 2 (by omega) (by omega)
  have h3 := gN_small k hk bs 3 (by omega) (by omega)
  have h4 := gN_range k hk bs 4 (by omega)
  have h5 := gN_small k hk bs 5 (by omega) (by omega)
  have h6 := tb_i64 k hk 0 (by omega)
  unfold Cmd.ok rawC
  simp only
  omega
def zeroC : Cmd := ⟨0, 0, 0, false, 0, 0, 0⟩
theorem zeroC_ok : zeroC.ok := by unfold Cmd.ok zeroC; simp
/-- What Parse answers. -/
def parseE (bs : List UInt8) : Int :=
  if bs.length = 16 then match findK (at8 bs 0) with | none => 1 | some k => if cE (rawC k bs) = 0 ∧ cL (rawC k bs) = bs then 0 else 11
  else 3
def parseC (bs : List UInt8) : Cmd :=
  if bs.length = 16 then match findK (at8 bs 0) with | none => zeroC | some k => if cE (rawC k bs) = 0 ∧ cL (rawC k bs) = bs then rawC k bs else zeroC
  else zeroC
theorem parseC_ok (bs : List UInt8) : (parseC bs).ok := by
  unfold parseC
  split
  · cases h : findK (at8 bs 0) with
    | none => exact zeroC_ok
    | some k =>
      simp only
      split
      · exact rawC_ok k (findK_some h).1 bs
      · exact zeroC_ok
  · exact zeroC_ok
/-- What Parse reads is written as the same bytes. -/
theorem parse_back {bs : List UInt8} (h : parseE bs = 0) : cE (parseC bs) = 0 ∧ cL (parseC bs) = bs := by
  unfold parseE at h
  unfold parseC
  split at h
  · rename_i hl
    rw [if_pos hl]
    cases hk : findK (at8 bs 0) with
    | none => rw [hk] at h; simp at h
    | some k =>
      rw [hk] at h
      simp only at h ⊢
      split at h
      · rename_i hh
        rw [if_pos hh]
        exact hh
      · omega
  · omega
end Go.Proofs.YtmaofhiapkfoaaaDoor
