/- What field.Put, Get and their like compute, as plain functions: numbers as bytes, the highest first, at a place of bytes. Plain Lean: no program in sight. -/
import Derived.Test.YtmaofhiapkfoaaaDoorRowsB
namespace Go.Proofs.YtmaofhiapkfoaaaDoor
open Go.RowKit
set_option linter.unusedVariables false
set_option linter.unusedSimpArgs false

/-- Are there so many bytes at a place? -/
def thereB (len : Nat) (at_ size : Int) : Bool := decide (1 ≤ size ∧ size ≤ 8 ∧ 0 ≤ at_ ∧ at_ + size ≤ len)
/-- Does a number go into so many bytes? -/
def fitsB (n : Int) (size : Int) : Bool := decide (n < 256 ^ size.toNat)
/-- A number's bytes, the highest first. -/
def numB (n : Int) : Nat → List UInt8
  | 0 => []
  | k + 1 => UInt8.ofNat (n / 256 ^ k % 256).toNat :: numB n k
theorem numB_length (n : Int) (k : Nat) : (numB n k).length = k := by
  induction k with
  | zero => rfl
  | succ k ih => rw [numB, List.length_cons, ih]
theorem numB_drop (n : Int) (k m : Nat) : (numB n (m + k)).drop m = numB n k := by
  induction m with
  | zero => simp
  | succ m ih =>
    rw [show m + 1 + k = (m + k) + 1 by omega, numB, List.drop_succ_cons, ih]
/-- The number of some bytes. -/
def valB (bs : List UInt8) : Int := bs.foldl (fun n b => n * 256 + (b.toNat : Int)) 0
theorem valB_snoc (bs : List UInt8) (b : UInt8) : valB (bs ++ [b]) = valB bs * 256 + (b.toNat : Int) := by simp [valB, List.foldl_append]
theorem valB_range (bs : List UInt8) : 0 ≤ valB bs ∧ valB bs < 256 ^ bs.length := by
  induction h : bs.length generalizing bs with
  | zero => rw [List.eq_nil_of_length_eq_zero h]; decide
  | succ k ih =>
    obtain ⟨init, b, rfl⟩ : ∃ init b, bs = init ++ [b] := ⟨bs.dropLast, bs.getLast (by intro e; rw [e] at h; simp at h), (List.dropLast_concat_getLast _).symm⟩
    have hl : init.length = k := by simpa using h
    have := ih init hl
    have hb := b.toNat_lt
    rw [valB_snoc, Int.pow_succ]
    omega
theorem numB_snoc (n : Int) (k : Nat) (h : 0 ≤ n) : numB n (k + 1) = numB (n / 256) k ++ [UInt8.ofNat (n % 256).toNat] := by
  induction k with
  | zero => simp [numB]
  | succ k ih =>
    rw [numB, ih, numB, List.cons_append]
    congr 4
    rw [Int.pow_succ, Int.mul_comm, Int.ediv_ediv_of_nonneg (by decide)]
theorem valB_numB (n : Int) (k : Nat) (h : 0 ≤ n) (h2 : n < 256 ^ k) : valB (numB n k) = n := by
  induction k generalizing n with
  | zero =>
    have : n = 0 := by simp at h2; omega
    subst this
    rfl
  | succ k ih =>
    rw [numB_snoc n k h, valB_snoc, ih (n / 256) (by omega) (by rw [Int.pow_succ] at h2; omega)]
    have : (UInt8.ofNat (n % 256).toNat).toNat = (n % 256).toNat := by
      simp
      omega
    rw [this]
    omega
theorem numB_valB (bs : List UInt8) : numB (valB bs) bs.length = bs := by
  induction h : bs.length generalizing bs with
  | zero => rw [List.eq_nil_of_length_eq_zero h]; rfl
  | succ k ih =>
    obtain ⟨init, b, rfl⟩ : ∃ init b, bs = init ++ [b] := ⟨bs.dropLast, bs.getLast (by intro e; rw [e] at h; simp at h), (List.dropLast_concat_getLast _).symm⟩
    have hl : init.length = k := by simpa using h
    have hr := valB_range init
    have hb := b.toNat_lt
    rw [numB_snoc _ _ (valB_range _).1, valB_snoc]
    have e1 : (valB init * 256 + (b.toNat : Int)) / 256 = valB init := by omega
    have e2 : (valB init * 256 + (b.toNat : Int)) % 256 = (b.toNat : Int) := by omega
    rw [e1, e2, ih init hl]
    simp

/-- Bytes with a number at a place, and the error. -/
def putL (bs : List UInt8) (at_ size n : Int) : List UInt8 :=
  if thereB bs.length at_ size then (if fitsB n size then bs.take at_.toNat ++ numB n size.toNat ++ bs.drop (at_ + size).toNat else []) else []
def putE (len : Nat) (at_ size n : Int) : Int := if thereB len at_ size then (if fitsB n size then 0 else 3) else 1
/-- The number at a place, and the error. -/
def getN (bs : List UInt8) (at_ size : Int) : Int := if thereB bs.length at_ size then valB ((bs.drop at_.toNat).take size.toNat) else 0
def getE (len : Nat) (at_ size : Int) : Int := if thereB len at_ size then 0 else 1
end Go.Proofs.YtmaofhiapkfoaaaDoor
