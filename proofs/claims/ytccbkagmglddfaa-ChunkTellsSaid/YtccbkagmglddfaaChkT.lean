/- ChunkTells: what Add tells of a piece that is turned, cut or longer. -/
import Derived.Test.YtccbkagmglddfaaChkI
namespace Go.Proofs.Ytccbkagmglddfaa
open Go.RowKit
set_option linter.unusedVariables false
set_option linter.unusedSimpArgs false
set_option maxRecDepth 20000
theorem test_num (B : BitVec 32) (k : Nat) : (bits BinOp.and IntKind.u32 (u32v B / 2 ^ k) 1 == 1) = B.getLsbD k := by
  have h1 : (1 : Int) = u32v 1#32 := by decide
  have h2 : u32v B / (2 : Int) ^ k = u32v (B >>> k) := by
    unfold u32v
    rw [BitVec.toNat_ushiftRight, Nat.shiftRight_eq_div_pow, Int.natCast_ediv, Int.natCast_pow]
    rfl
  have e : B >>> k &&& 1#32 = if B.getLsbD k then 1#32 else 0#32 := by
    apply BitVec.eq_of_getLsbD_eq
    intro i hi
    rw [BitVec.getLsbD_and, BitVec.getLsbD_ushiftRight]
    cases i with
    | zero => cases hb : B.getLsbD k <;> simp [hb]
    | succ i => cases hb : B.getLsbD k <;> simp
  have h3 : bits BinOp.and IntKind.u32 (u32v B / (2 : Int) ^ k) 1 = u32v (if B.getLsbD k then 1#32 else 0#32) := by
    rw [h2]
    conv => lhs; rw [h1]
    rw [u32_and, e]
  rw [h3]
  cases B.getLsbD k <;> decide
theorem flip_num (xs : List UInt8) (j b : Nat) (hb : b < 8) : bits BinOp.xor IntKind.u8 (at8 xs j) (2 ^ b % 256) = at8 [flip1 (xs.getD j 0) b] 0 := by
  have h1 := (xs.getD j 0).toNat_lt
  have h2 : (2 : Int) ^ b % 256 = ((2 ^ b : Nat) : Int) := by
    have : 2 ^ b < 256 := Nat.lt_of_lt_of_le (Nat.pow_lt_pow_right (by decide) hb) (by decide)
    rw [Int.natCast_pow]
    exact Int.emod_eq_of_lt (Int.pow_nonneg (by decide)) (by have := Int.ofNat_lt.2 this; rw [Int.natCast_pow] at this; exact this)
  have h3 : 2 ^ b < 256 := Nat.lt_of_lt_of_le (Nat.pow_lt_pow_right (by decide) hb) (by decide)
  unfold at8
  rw [h2, u8_xor_nat _ _ h1 h3]
  congr 1
  show _ = ((xs.getD j 0).toBitVec ^^^ (1#8 <<< b)).toNat
  rw [BitVec.toNat_xor]
  congr 1
  rw [BitVec.toNat_shiftLeft]
  simp [Nat.shiftLeft_eq]
  omega

theorem none_bad {p : List UInt8} (h : readE p ≠ 0) : Cs.none.addE p = readE p ∧ Cs.none.add p = Cs.none := ⟨addE_ne h, add_bad (by rw [addE_ne h]; exact h)⟩
theorem tells_piece {id size : Int} {b : List UInt8} (h : splE id b.length size = 0) {k : Nat} (hk : k < splN b.length size) : readE (splP id b size k) = 0 ∧ 22 ≤ (splP id b size k).length ∧ Cs.none.addE (splP id b size k) = 0 := by
  refine ⟨(splP_reads h hk).1, by unfold splP; rw [pieceL_length]; omega, (add_first h hk Cs.none ?_).1⟩
  obtain ⟨h1, -⟩ := splE_ok h
  simp [Cs.none]
  omega
theorem tells_cut {p : List UInt8} (h : readE p = 0) {m : Nat} (hm : m < p.length) : readE (p.take m) ≠ 0 := readE_ne (tell_cut (readE_own h).1 hm)
theorem tells_more {p : List UInt8} (h : readE p = 0) (x : UInt8) : readE (p ++ [x]) ≠ 0 := readE_ne (tell_more (readE_own h).1 x)
section
variable {wN W W' : World} {p : Nat} {c : Cs}
theorem Rdy.sm {w : World} (h : Rdy wN W p c) (hs : Same w wN) : Same w W := Same.into hs h.2.1 (fun k hk => Nat.le_trans hs.size hk)
theorem Rdy.bad (h : Rdy wN W p Cs.none) (A : Option Addr) (n cap : Nat) (pb : List UInt8) (hp : Bs W (.slice A n cap) pb) (hl : pb.length ≤ 140737488351232) (hb : readE pb ≠ 0) :
    Calls Try.prog 12 #[.pointer (some ⟨p, 0, none⟩), .slice A n cap] W fun e w' => e = .returned (.int .i64 (readE pb)) ∧ Rdy wN w' p Cs.none := by
  obtain rfl : n = pb.length := hp.capN.1
  refine (h.add (by simp [Cs.none]) A cap pb hp hl).mono ?_
  rintro e w' ⟨rfl, h2⟩
  rw [(none_bad hb).2] at h2
  rw [(none_bad hb).1]
  exact ⟨rfl, h2⟩
theorem Rdy.good (h : Rdy wN W p Cs.none) (A : Option Addr) (n cap : Nat) (pb : List UInt8) (hp : Bs W (.slice A n cap) pb) (hl : pb.length ≤ 140737488351232) (hg : Cs.none.addE pb = 0) :
    Calls Try.prog 12 #[.pointer (some ⟨p, 0, none⟩), .slice A n cap] W fun e w' => e = .returned (.int .i64 0) ∧ Rdy wN w' p (Cs.none.add pb) := by
  obtain rfl : n = pb.length := hp.capN.1
  refine (h.add (by simp [Cs.none]) A cap pb hp hl).mono ?_
  rintro e w' ⟨rfl, h2⟩
  rw [hg]
  exact ⟨rfl, h2⟩
theorem Rdy.id0 (h : Rdy wN W p Cs.none) : Calls Try.prog 13 #[.pointer (some ⟨p, 0, none⟩)] W fun e w' => e = .returned (.int .i64 0) ∧ W = w' := h.id
theorem Rdy.added0 (h : Rdy wN W p Cs.none) : Calls Try.prog 24 #[.pointer (some ⟨p, 0, none⟩)] W fun e w' => e = .returned (.int .i64 0) ∧ W = w' := h.added
end
/-- Bits turned in c, of piece P: m of them are reached. -/
def TlS (w1 wr : World) (v : Value) (P : List UInt8) (t : Nat) (B : BitVec 32) (m : Nat) : Prop := Fresh w1.heap.size wr v (flipN P t B m) ∧ Same w1 wr
end Go.Proofs.Ytccbkagmglddfaa
