/- PutKeys and Keys, the program's and the reference's. -/
import Derived.Test.YtmaofhiapkfoaaaDoorCdbP
import Derived.Test.YtmaofhiapkfoaaaDoorRWriterN
import Derived.Test.YtmaofhiapkfoaaaDoorWriterBN
import Derived.Test.YtmaofhiapkfoaaaDoorReaderBN
import Derived.Test.YtmaofhiapkfoaaaDoorRReaderN
namespace Go.Proofs.YtmaofhiapkfoaaaDoor
open Go.RowKit
set_option linter.unusedVariables false
set_option linter.unusedSimpArgs false
set_option maxRecDepth 20000
/-- A u64 as the writers take it. -/
abbrev i64w (n : Int) : Int := wrap64 n
theorem i64w_range (n : Int) : -9223372036854775808 ≤ i64w n ∧ i64w n ≤ 9223372036854775807 := by unfold i64w wrap64; omega
theorem numB_i64w (n : Int) (k : Nat) (h : k ≤ 8) : numB (i64w n) k = numB n k := by
  rw [← numB_mod (i64w n) k h, ← numB_mod n k h]
  congr 1
  unfold i64w wrap64
  omega
def keysL (key next : Int) : List UInt8 := numB key 8 ++ numB next 8 ++ numB 0 8
theorem keysL_length (key next : Int) : (keysL key next).length = 24 := by simp [keysL, numB_length]
def kv (bs : List UInt8) (i : Nat) : Int := valB ((bs.drop (8 * i)).take 8)
def keysE (bs : List UInt8) : Int := if bs.length < 24 then 10 else if kv bs 2 ≠ 0 ∨ 24 < bs.length then 11 else 0
def keysN (bs : List UInt8) (i : Nat) : Int := if keysE bs = 0 then kv bs i else 0
theorem kv_range (bs : List UInt8) (i : Nat) : 0 ≤ kv bs i ∧ kv bs i ≤ 18446744073709551615 := by
  have h := valB_range ((bs.drop (8 * i)).take 8)
  have hl : ((bs.drop (8 * i)).take 8).length ≤ 8 := List.length_take_le _ _
  have h2 : ((256 ^ ((bs.drop (8 * i)).take 8).length : Nat) : Int) ≤ ((256 ^ 8 : Nat) : Int) := Int.ofNat_le.2 (Nat.pow_le_pow_right (by decide) hl)
  have h3 : (256 : Int) ^ ((bs.drop (8 * i)).take 8).length ≤ 18446744073709551616 := by simpa [Int.natCast_pow] using h2
  unfold kv
  omega
theorem keys_back {bs : List UInt8} (h : keysE bs = 0) : keysL (keysN bs 0) (keysN bs 1) = bs := by
  have h0 : keysN bs 0 = kv bs 0 := by unfold keysN; rw [if_pos h]
  have h1 : keysN bs 1 = kv bs 1 := by unfold keysN; rw [if_pos h]
  have hl : bs.length = 24 ∧ kv bs 2 = 0 := by
    unfold keysE at h
    split at h
    · omega
    · split at h
      · omega
      · rename_i h3 h4
        have h5 : ¬ (24 < bs.length) := fun h => h4 (.inr h)
        have h6 : kv bs 2 = 0 := by
          by_cases hk : kv bs 2 = 0
          · exact hk
          · exact absurd (.inl hk) h4
        exact ⟨by omega, h6⟩
  have hn : ∀ i, i < 3 → numB (kv bs i) 8 = (bs.drop (8 * i)).take 8 := fun i hi => by
    have hlen : ((bs.drop (8 * i)).take 8).length = 8 := by simp; omega
    have := numB_valB ((bs.drop (8 * i)).take 8)
    rw [hlen] at this
    exact this
  unfold keysL
  rw [h0, h1, ← hl.2, hn 0 (by omega), hn 1 (by omega), hn 2 (by omega)]
  have e : bs = bs.take 8 ++ ((bs.drop 8).take 8 ++ (bs.drop 16).take 8) := by
    have e1 : (bs.drop 16).take 8 = bs.drop 16 := List.take_of_length_le (by simp; omega)
    rw [e1]
    conv => lhs; rw [← List.take_append_drop 8 bs]
    congr 1
    conv => lhs; rw [← List.take_append_drop 8 (bs.drop 8)]
    rw [List.drop_drop]
  simp only [Nat.mul_zero, List.drop_zero, Nat.mul_one]
  rw [List.append_assoc]
  exact e.symm
theorem keys_put (key next : Int) (hk : 0 ≤ key ∧ key ≤ 18446744073709551615) (hn : 0 ≤ next ∧ next ≤ 18446744073709551615) : keysE (keysL key next) = 0 ∧ keysN (keysL key next) 0 = key ∧ keysN (keysL key next) 1 = next := by
  have l8 : ∀ n : Int, (numB n 8).length = 8 := fun n => numB_length n 8
  have v8 : ∀ n : Int, 0 ≤ n ∧ n ≤ 18446744073709551615 → valB (numB n 8) = n := fun n h => valB_numB n 8 h.1 (by rw [show (256 : Int) ^ 8 = 18446744073709551616 by decide]; omega)
  have k0 : kv (keysL key next) 0 = key := by
    unfold kv keysL
    rw [Nat.mul_zero, List.drop_zero, List.append_assoc, List.take_left' (l8 key), v8 key hk]
  have k1 : kv (keysL key next) 1 = next := by
    unfold kv keysL
    rw [Nat.mul_one, List.append_assoc, List.drop_left' (l8 key), List.take_left' (l8 next), v8 next hn]
  have k2 : kv (keysL key next) 2 = 0 := by
    unfold kv keysL
    rw [List.drop_left' (by rw [List.length_append, l8, l8]), List.take_of_length_le (by rw [l8]; exact Nat.le_refl _)]
    decide
  have hE : keysE (keysL key next) = 0 := by
    unfold keysE
    rw [keysL_length, if_neg (by omega), k2]
    simp
  refine ⟨hE, ?_, ?_⟩
  · unfold keysN; rw [if_pos hE, k0]
  · unfold keysN; rw [if_pos hE, k1]
theorem wrL8 (bs : List UInt8) (n : Int) : wrL bs 0 8 n = bs ++ numB n 8 := by unfold wrL wrE; simp
theorem wrE8 (n : Int) : wrE 0 8 n = 0 := by unfold wrE; simp
/-- A writer's number, its world told: a block B off its footprint is as it was. -/
theorem grew8 {base : Nat} {w w0 w' : World} {p : Nat} {v : Value} {bs bs' : List UInt8} {e' : Int} (B : Nat) (h : WObj base w p v bs 0) (hs : Same w0 w) (hb : w0.heap.size ≤ base) (hB : ¬ foot p v B) (hBs : B < w.heap.size) (hg : Grew base w p v w' bs' e') :
    ∃ v', WObj base w' p v' bs' e' ∧ Same w0 w' ∧ ¬ foot p v' B ∧ B < w'.heap.size ∧ ∀ j u, w.cell? ⟨B, j, none⟩ = some u → w'.cell? ⟨B, j, none⟩ = some u := by
  obtain ⟨v', h1, h2, h3⟩ := hg
  refine ⟨v', h1, Same.into hs h2 (fun k hk => by have := (h.foot k hk).1; omega), ?_, Nat.lt_of_lt_of_le hBs h2.size, fun j u hj => h2.cell hj hB⟩
  rintro (e | e)
  · exact hB (.inl e)
  · rcases h3 B e with e | e
    · exact hB (.inr e)
    · omega
end Go.Proofs.YtmaofhiapkfoaaaDoor
