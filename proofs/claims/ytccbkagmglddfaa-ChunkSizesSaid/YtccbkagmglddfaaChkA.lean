/- An image in pieces (chapter 07): what Split, Add and Whole compute, as plain functions. Plain Lean: no program in sight. -/
import Derived.Test.YtccbkagmglddfaaGb
import Derived.Test.YtccbkagmglddfaaCrc
namespace Go.Proofs.Ytccbkagmglddfaa
open Go.RowKit
set_option linter.unusedVariables false
set_option linter.unusedSimpArgs false
set_option maxRecDepth 20000
/-- A number at a place. -/
def cn (bs : List UInt8) (a s : Nat) : Int := valB ((bs.drop a).take s)
theorem cn_range (bs : List UInt8) (a s : Nat) : 0 ≤ cn bs a s ∧ cn bs a s < 256 ^ s := by
  have h := valB_range ((bs.drop a).take s)
  have hl : ((bs.drop a).take s).length ≤ s := List.length_take_le _ _
  have hp : (256 : Int) ^ ((bs.drop a).take s).length ≤ 256 ^ s := by
    have h2 : ((256 ^ ((bs.drop a).take s).length : Nat) : Int) ≤ ((256 ^ s : Nat) : Int) := Int.ofNat_le.2 (Nat.pow_le_pow_right (by decide) hl)
    simpa [Int.natCast_pow] using h2
  unfold cn
  exact ⟨h.1, by omega⟩
theorem p256_2 : (256 : Int) ^ 2 = 65536 := by decide
theorem p256_4 : (256 : Int) ^ 4 = 4294967296 := by decide
theorem p256_8 : (256 : Int) ^ 8 = 18446744073709551616 := by decide
theorem wrap64_id {n : Int} (h0 : -9223372036854775808 ≤ n) (h1 : n ≤ 9223372036854775807) : wrap64 n = n := by unfold wrap64; omega
/-- What stands ahead of a piece's digest. -/
def bodyL (id k n s : Int) (b : List UInt8) : List UInt8 := numB id 8 ++ (numB k 2 ++ (numB n 2 ++ (numB s 4 ++ (numB b.length 2 ++ b))))
def pieceL (id k n s : Int) (b : List UInt8) : List UInt8 := bodyL id k n s b ++ numB (u32v (crcSum (bodyL id k n s b))) 4
theorem bodyL_length (id k n s : Int) (b : List UInt8) : (bodyL id k n s b).length = 18 + b.length := by unfold bodyL; simp only [List.length_append, numB_length]; omega
theorem pieceL_length (id k n s : Int) (b : List UInt8) : (pieceL id k n s b).length = 22 + b.length := by unfold pieceL; rw [List.length_append, bodyL_length, numB_length]; omega
section
variable (p : List UInt8)
/-- What is left and which error stands behind each step of the reading. -/
def q1L : List UInt8 := rnL p 0 8
def q1E : Int := rnE 0 8 p.length
def q2L : List UInt8 := rnL (q1L p) (q1E p) 2
def q2E : Int := rnE (q1E p) 2 (q1L p).length
def q3L : List UInt8 := rnL (q2L p) (q2E p) 2
def q3E : Int := rnE (q2E p) 2 (q2L p).length
def q4L : List UInt8 := rnL (q3L p) (q3E p) 4
def q4E : Int := rnE (q3E p) 4 (q3L p).length
def q5L : List UInt8 := rbL (q4L p) (q4E p) 2
def q5E : Int := rbE (q4L p) (q4E p) 2
def q6L : List UInt8 := rnL (q5L p) (q5E p) 4
def q6E : Int := rnE (q5E p) 4 (q5L p).length
def q7E : Int := reE (q6E p) (q6L p).length
def idP : Int := rnN p 0 8
def kP : Int := rnN (q1L p) (q1E p) 2
def nP : Int := rnN (q2L p) (q2E p) 2
def sP : Int := rnN (q3L p) (q3E p) 4
def bP : List UInt8 := rbP (q4L p) (q4E p) 2
def ownP : Int := rnN (q5L p) (q5E p) 4
def badP : Prop := idP p < 1 ∨ 1152921504606846976 < idP p ∨ nP p < 1 ∨ 256 < nP p ∨ nP p ≤ kP p ∨ 4096 < (bP p).length
instance : Decidable (badP p) := by unfold badP; infer_instance
/-- What a piece is refused for. -/
def readE : Int := if q7E p ≠ 0 then q7E p else if ownP p ≠ u32v (crcSum (p.take (p.length - 4))) then 12 else if badP p then 1 else 0
end
theorem rnE_zero {e size : Int} {len : Nat} (h : rnE e size len = 0) : e = 0 ∧ 1 ≤ size ∧ size ≤ 8 ∧ size ≤ len := by
  unfold rnE at h
  split at h
  · rename_i h1; exact absurd h h1
  · rename_i h1
    split at h
    · omega
    · split at h
      · omega
      · exact ⟨Classical.not_not.1 h1, by omega⟩
theorem rn_zero {bs : List UInt8} {e : Int} {s : Nat} (h : rnE e s bs.length = 0) : rnL bs e s = bs.drop s ∧ rnN bs e s = wrap64 (cn bs 0 s) := by
  unfold rnL rnN
  rw [if_pos h, if_pos h]
  exact ⟨by simp, by unfold cn; simp⟩
theorem rn_range (bs : List UInt8) (e : Int) (s : Nat) (hs : s ≤ 4) : 0 ≤ rnN bs e s ∧ rnN bs e s < 256 ^ s := by
  have hp : (0 : Int) < 256 ^ s := Int.pow_pos (by decide)
  by_cases h : rnE e s bs.length = 0
  · rw [(rn_zero h).2]
    have h1 := cn_range bs 0 s
    have h2 : (256 : Int) ^ s ≤ 4294967296 := by
      rcases (show s = 0 ∨ s = 1 ∨ s = 2 ∨ s = 3 ∨ s = 4 by omega) with rfl | rfl | rfl | rfl | rfl <;> decide
    rw [wrap64_id (by omega) (by omega)]
    exact h1
  · unfold rnN
    rw [if_neg h]
    exact ⟨Int.le_refl _, hp⟩
theorem k_range (p : List UInt8) : 0 ≤ kP p ∧ kP p < 65536 := rn_range _ _ 2 (by decide)
theorem n_range (p : List UInt8) : 0 ≤ nP p ∧ nP p < 65536 := rn_range _ _ 2 (by decide)
theorem s_range (p : List UInt8) : 0 ≤ sP p ∧ sP p < 4294967296 := rn_range _ _ 4 (by decide)
theorem own_range (p : List UInt8) : 0 ≤ ownP p ∧ ownP p < 4294967296 := rn_range _ _ 4 (by decide)
theorem cn_drop (bs : List UInt8) (a b s : Nat) : cn (bs.drop a) b s = cn bs (a + b) s := by unfold cn; rw [List.drop_drop]
/-- A piece that reads well: where its parts lie. -/
theorem read_ok {p : List UInt8} (h : q7E p = 0) : p.length = 22 + (cn p 16 2).toNat ∧ idP p = wrap64 (cn p 0 8) ∧ kP p = cn p 8 2 ∧ nP p = cn p 10 2 ∧ sP p = cn p 12 4 ∧
    bP p = (p.drop 18).take (cn p 16 2).toNat ∧ ownP p = cn p (18 + (cn p 16 2).toNat) 4 := by
  have h6 : q6E p = 0 ∧ (q6L p).length = 0 := by
    unfold q7E reE at h
    split at h
    · omega
    · rename_i h1; exact ⟨h, by omega⟩
  obtain ⟨h5, -, -, l5⟩ := rnE_zero (show rnE (q5E p) 4 (q5L p).length = 0 from h6.1)
  have hb : q4E p = 0 ∧ cutE (q4L p) 2 = 0 := by
    unfold q5E rbE at h5
    split at h5
    · rename_i h1; exact absurd h5 h1
    · rename_i h1; exact ⟨Classical.not_not.1 h1, h5⟩
  obtain ⟨h3, -, -, l3⟩ := rnE_zero (show rnE (q3E p) 4 (q3L p).length = 0 from hb.1)
  obtain ⟨h2, -, -, l2⟩ := rnE_zero (show rnE (q2E p) 2 (q2L p).length = 0 from h3)
  obtain ⟨h1, -, -, l1⟩ := rnE_zero (show rnE (q1E p) 2 (q1L p).length = 0 from h2)
  obtain ⟨-, -, -, l0⟩ := rnE_zero (show rnE 0 8 p.length = 0 from h1)
  have a1 := rn_zero (bs := p) (e := 0) (s := 8) h1
  have a2 := rn_zero (bs := q1L p) (e := q1E p) (s := 2) h2
  have a3 := rn_zero (bs := q2L p) (e := q2E p) (s := 2) h3
  have a4 := rn_zero (bs := q3L p) (e := q3E p) (s := 4) hb.1
  have a6 := rn_zero (bs := q5L p) (e := q5E p) (s := 4) h6.1
  have e1 : q1L p = p.drop 8 := a1.1
  have e2 : q2L p = p.drop 10 := by rw [show q2L p = (q1L p).drop 2 from a2.1, e1, List.drop_drop]
  have e3 : q3L p = p.drop 12 := by rw [show q3L p = (q2L p).drop 2 from a3.1, e2, List.drop_drop]
  have e4 : q4L p = p.drop 16 := by rw [show q4L p = (q3L p).drop 4 from a4.1, e3, List.drop_drop]
  have hv : cutV (q4L p) 2 = cn p 16 2 := by unfold cutV cn; rw [e4]; rfl
  have hr := cn_range p 16 2
  have hm : ((cn p 16 2).toNat : Int) = cn p 16 2 := Int.toNat_of_nonneg hr.1
  have hc : (2 : Int) ≤ (q4L p).length ∧ cn p 16 2 ≤ 65536 ∧ 2 + cn p 16 2 ≤ (q4L p).length := by
    rcases cut_cases (q4L p) 2 with ⟨c1, c2⟩ | ⟨c1, c3, c2⟩ | ⟨c1, c3, c4, c2⟩ | ⟨c1, c3, c4, c5, c2⟩ | ⟨c1, c3, c4, c5, c2⟩
    all_goals rw [hb.2] at c2
    · exact absurd c2 (by decide)
    · exact absurd c2 (by decide)
    · exact absurd c2 (by decide)
    · exact absurd c2 (by decide)
    · rw [hv] at c4 c5; exact ⟨c3, c4, c5⟩
  have e5 : q5L p = p.drop (18 + (cn p 16 2).toNat) := by
    unfold q5L rbL
    rw [if_neg (by rw [hb.1]; simp), if_pos hb.2]
    unfold cutN
    rw [if_pos hb.2, hv, e4, List.drop_drop]
    congr 1
    omega
  have e6 : q6L p = p.drop (22 + (cn p 16 2).toNat) := by rw [show q6L p = (q5L p).drop 4 from a6.1, e5, List.drop_drop]; congr 1; omega
  have hb' : bP p = (p.drop 18).take (cn p 16 2).toNat := by
    unfold bP rbP
    rw [if_neg (by rw [hb.1]; simp)]
    unfold cutP
    rw [if_pos hb.2, hv, e4, List.drop_drop]
    rfl
  rw [e4, List.length_drop] at hc
  rw [e5, List.length_drop] at l5
  have l6 := h6.2
  rw [e6, List.length_drop] at l6
  have r8 := cn_range p 8 2
  have r10 := cn_range p 10 2
  have r12 := cn_range p 12 4
  have r18 := cn_range p (18 + (cn p 16 2).toNat) 4
  refine ⟨by omega, a1.2, ?_, ?_, ?_, hb', ?_⟩
  · rw [show kP p = _ from a2.2, e1, cn_drop, Nat.add_zero, wrap64_id (by omega) (by omega)]
  · rw [show nP p = _ from a3.2, e2, cn_drop, Nat.add_zero, wrap64_id (by omega) (by omega)]
  · rw [show sP p = _ from a4.2, e3, cn_drop, Nat.add_zero, wrap64_id (by omega) (by omega)]
  · rw [show ownP p = _ from a6.2, e5, cn_drop, Nat.add_zero, wrap64_id (by omega) (by omega)]
theorem rn_put {n : Int} {s : Nat} {zs : List UInt8} (hs : 1 ≤ s ∧ s ≤ 8) (h0 : 0 ≤ n) (h1 : n < 256 ^ s) (h2 : n ≤ 9223372036854775807) :
    rnE 0 s (numB n s ++ zs).length = 0 ∧ rnL (numB n s ++ zs) 0 s = zs ∧ rnN (numB n s ++ zs) 0 s = n := by
  have he : rnE 0 s (numB n s ++ zs).length = 0 := by
    unfold rnE
    rw [List.length_append, numB_length, if_neg (by simp), if_neg (by omega), if_neg (by omega)]
  obtain ⟨a, b⟩ := rn_zero he
  refine ⟨he, by rw [a]; exact List.drop_left' (numB_length n s), ?_⟩
  rw [b]
  have : cn (numB n s ++ zs) 0 s = n := by
    unfold cn
    rw [List.drop_zero, List.take_left' (numB_length n s)]
    exact valB_numB n s h0 h1
  rw [this, wrap64_id (by omega) h2]
theorem not_bad {id k n : Int} {m : Nat} (hid : 1 ≤ id ∧ id ≤ 1152921504606846976) (hk : 0 ≤ k ∧ k < n) (hn : n ≤ 256) (hb : m ≤ 4096) : ¬ (id < 1 ∨ 1152921504606846976 < id ∨ n < 1 ∨ 256 < n ∨ n ≤ k ∨ 4096 < m) := by omega
/-- What a piece's bytes read as. -/
theorem read_piece {id k n s : Int} {b : List UInt8} (hid : 1 ≤ id ∧ id ≤ 1152921504606846976) (hk : 0 ≤ k ∧ k < n) (hn : n ≤ 256) (hs : 0 ≤ s ∧ s ≤ 4294967295) (hb : b.length ≤ 4096) :
    readE (pieceL id k n s b) = 0 ∧ idP (pieceL id k n s b) = id ∧ kP (pieceL id k n s b) = k ∧ nP (pieceL id k n s b) = n ∧ sP (pieceL id k n s b) = s ∧ bP (pieceL id k n s b) = b := by
  obtain ⟨D, hD⟩ : ∃ D, D = crcSum (bodyL id k n s b) := ⟨_, rfl⟩
  have hDr := u32v_range D
  have f1 : 0 ≤ id := by omega
  have f2 : id < 256 ^ 8 := by rw [p256_8]; omega
  have f3 : id ≤ 9223372036854775807 := by omega
  have f4 : k < 256 ^ 2 := by rw [p256_2]; omega
  have f5 : k ≤ 9223372036854775807 := by omega
  have f6 : 0 ≤ n := by omega
  have f7 : n < 256 ^ 2 := by rw [p256_2]; omega
  have f8 : n ≤ 9223372036854775807 := by omega
  have f9 : s < 256 ^ 4 := by rw [p256_4]; omega
  have f10 : s ≤ 9223372036854775807 := by omega
  have f11 : u32v D < 256 ^ 4 := by rw [p256_4]; omega
  have f12 : u32v D ≤ 9223372036854775807 := by omega
  have hp : pieceL id k n s b = numB id 8 ++ (numB k 2 ++ (numB n 2 ++ (numB s 4 ++ ((numB b.length 2 ++ (b ++ numB (u32v D) 4)))))) := by
    unfold pieceL
    rw [← hD]
    unfold bodyL
    simp only [List.append_assoc]
  have hlen := pieceL_length id k n s b
  have htk : (pieceL id k n s b).take ((pieceL id k n s b).length - 4) = bodyL id k n s b := by
    rw [hlen, show 22 + b.length - 4 = (bodyL id k n s b).length by rw [bodyL_length]; omega]
    unfold pieceL
    exact List.take_left
  generalize pieceL id k n s b = p at hp hlen htk
  obtain ⟨E1, L1, N1⟩ := rn_put (n := id) (s := 8) (zs := numB k 2 ++ (numB n 2 ++ (numB s 4 ++ ((numB b.length 2 ++ (b ++ numB (u32v D) 4)))))) (by decide) f1 f2 f3
  rw [← hp] at E1 L1 N1
  have e1 : q1E p = 0 := E1
  have l1 : q1L p = numB k 2 ++ (numB n 2 ++ (numB s 4 ++ ((numB b.length 2 ++ (b ++ numB (u32v D) 4))))) := L1
  obtain ⟨E2, L2, N2⟩ := rn_put (n := k) (s := 2) (zs := numB n 2 ++ (numB s 4 ++ ((numB b.length 2 ++ (b ++ numB (u32v D) 4))))) (by decide) hk.1 f4 f5
  have e2 : q2E p = 0 := by unfold q2E; rw [e1, l1]; exact E2
  have l2 : q2L p = numB n 2 ++ (numB s 4 ++ ((numB b.length 2 ++ (b ++ numB (u32v D) 4)))) := by unfold q2L; rw [e1, l1]; exact L2
  have n2 : kP p = k := by unfold kP; rw [e1, l1]; exact N2
  obtain ⟨E3, L3, N3⟩ := rn_put (n := n) (s := 2) (zs := numB s 4 ++ ((numB b.length 2 ++ (b ++ numB (u32v D) 4)))) (by decide) f6 f7 f8
  have e3 : q3E p = 0 := by unfold q3E; rw [e2, l2]; exact E3
  have l3 : q3L p = numB s 4 ++ ((numB b.length 2 ++ (b ++ numB (u32v D) 4))) := by unfold q3L; rw [e2, l2]; exact L3
  have n3 : nP p = n := by unfold nP; rw [e2, l2]; exact N3
  obtain ⟨E4, L4, N4⟩ := rn_put (n := s) (s := 4) (zs := numB b.length 2 ++ (b ++ numB (u32v D) 4)) (by decide) hs.1 f9 f10
  have e4 : q4E p = 0 := by unfold q4E; rw [e3, l3]; exact E4
  have l4 : q4L p = numB b.length 2 ++ (b ++ numB (u32v D) 4) := by unfold q4L; rw [e3, l3]; exact L4
  have n4 : sP p = s := by unfold sP; rw [e3, l3]; exact N4
  have hv : cutV (q4L p) 2 = b.length := by
    unfold cutV
    rw [l4, show (2 : Int).toNat = 2 from rfl, List.take_left' (numB_length _ 2)]
    exact valB_numB _ 2 (by omega) (by rw [p256_2]; omega)
  have hql : (q4L p).length = 6 + b.length := by rw [l4]; simp only [List.length_append, numB_length]; omega
  have hc : cutE (q4L p) 2 = 0 := by
    rcases cut_cases (q4L p) 2 with ⟨c1, c2⟩ | ⟨c1, c3, c2⟩ | ⟨c1, c3, c4, c2⟩ | ⟨c1, c3, c4, c5, c2⟩ | ⟨c1, c3, c4, c5, c2⟩
    · exact absurd c1 (by decide)
    · rw [hql] at c3; omega
    · rw [hv] at c4; omega
    · rw [hv, hql] at c5; omega
    · exact c2
  have e5 : q5E p = 0 := by unfold q5E rbE; rw [if_neg (by rw [e4]; simp)]; exact hc
  have l5 : q5L p = numB (u32v D) 4 ++ [] := by
    unfold q5L rbL
    rw [if_neg (by rw [e4]; simp), if_pos hc]
    unfold cutN
    rw [if_pos hc, hv, l4, show (2 + (b.length : Int)).toNat = 2 + b.length by omega, ← List.drop_drop, List.drop_left' (numB_length _ 2), List.drop_left, List.append_nil]
  have n5 : bP p = b := by
    unfold bP rbP
    rw [if_neg (by rw [e4]; simp)]
    unfold cutP
    rw [if_pos hc, hv, l4, show (2 : Int).toNat = 2 from rfl, List.drop_left' (numB_length _ 2), Int.toNat_natCast, List.take_left]
  obtain ⟨E6, L6, N6⟩ := rn_put (n := u32v D) (s := 4) (zs := []) (by decide) hDr.1 f11 f12
  have e6 : q6E p = 0 := by unfold q6E; rw [e5, l5]; exact E6
  have l6 : q6L p = [] := by unfold q6L; rw [e5, l5]; exact L6
  have n6 : ownP p = u32v D := by unfold ownP; rw [e5, l5]; exact N6
  have e7 : q7E p = 0 := by unfold q7E reE; rw [e6, l6]; simp
  refine ⟨?_, N1, n2, n3, n4, n5⟩
  unfold readE
  rw [if_neg (by rw [e7]; simp), if_neg (by rw [htk, n6, hD]; simp), if_neg]
  unfold badP
  rw [show idP p = id from N1, n2, n3, n5]
  exact not_bad hid hk hn hb
/-- What is gathered. -/
structure Cs where
  id : Int
  s : Int
  l : List (Option (List UInt8))
  added : Int
def Cs.none : Cs := ⟨0, 0, [], 0⟩
def Cs.addE (c : Cs) (p : List UInt8) : Int :=
  if readE p ≠ 0 then readE p else if idP p < c.id then 5 else if c.id < idP p then 0 else if (c.l.length : Int) ≠ nP p ∨ c.s ≠ sP p then 11 else 0
/-- Pieces of a greater id take the place. -/
def Cs.to (c : Cs) (p : List UInt8) : Cs := if c.id < idP p then ⟨idP p, sP p, List.replicate (nP p).toNat Option.none, c.added⟩ else c
/-- A place is filled once. -/
def putAt (l : List (Option (List UInt8))) (k : Nat) (b : List UInt8) : List (Option (List UInt8)) := if l[k]? = some Option.none then l.set k (some b) else l
def Cs.add (c : Cs) (p : List UInt8) : Cs :=
  if c.addE p = 0 then { c.to p with l := putAt (c.to p).l (kP p).toNat (bP p), added := c.added + 1 } else c
def allB (l : List (Option (List UInt8))) : List UInt8 := l.flatMap fun o => o.getD []
def Cs.full (c : Cs) : Bool := decide (c.l ≠ []) && !(c.l.any fun o => o.isNone)
def Cs.whole (c : Cs) : Option (List UInt8) :=
  if c.full && decide ((allB c.l).length ≤ 65536 ∧ u32v (crcSum (allB c.l)) = c.s) then some (allB c.l) else Option.none
def missL (l : List (Option (List UInt8))) : List Int := (((List.range l.length).filter fun k => l[k]? == some Option.none : List Nat).map fun (k : Nat) => (k : Int))
/-- An image in pieces. -/
def splN (len : Nat) (size : Int) : Nat := max ((len + size.toNat - 1) / size.toNat) 1
def splE (id : Int) (len : Nat) (size : Int) : Int := if id < 1 ∨ 1152921504606846976 < id ∨ size < 1 ∨ 4096 < size then 1 else if 65536 < len ∨ 256 < splN len size then 3 else 0
def cutAt (b : List UInt8) (sz k : Nat) : List UInt8 := (b.drop (k * sz)).take sz
def splP (id : Int) (b : List UInt8) (size : Int) (k : Nat) : List UInt8 := pieceL id k (splN b.length size) (u32v (crcSum b)) (cutAt b size.toNat k)
def splL (id : Int) (b : List UInt8) (size : Int) : List (List UInt8) := if splE id b.length size = 0 then (List.range (splN b.length size)).map (splP id b size) else []
end Go.Proofs.Ytccbkagmglddfaa
