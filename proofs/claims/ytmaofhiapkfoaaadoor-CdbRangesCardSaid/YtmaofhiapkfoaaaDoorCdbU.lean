/- Ranges as plain Lean: what PutRanges and Ranges compute, and there and back. -/
import Derived.Test.YtmaofhiapkfoaaaDoorCdbY
namespace Go.Proofs.YtmaofhiapkfoaaaDoor
open Go.RowKit
set_option linter.unusedVariables false
set_option linter.unusedSimpArgs false
set_option maxRecDepth 20000
abbrev Rg := Int × Int
def rgC (r : Rg) : List Value := [.int .u64 r.1, .int .i64 r.2]
def Rg.ok (r : Rg) : Prop := (0 ≤ r.1 ∧ r.1 ≤ 18446744073709551615) ∧ (-9223372036854775808 ≤ r.2 ∧ r.2 ≤ 9223372036854775807)
def rgB (r : Rg) : List UInt8 := numB r.1 8 ++ numB r.2 4 ++ numB 0 4
theorem rgB_length (r : Rg) : (rgB r).length = 16 := by simp [rgB, numB_length]
def headB (n : Nat) : List UInt8 := numB (16 * (n : Int) + 6) 2 ++ numB (16 * (n : Int)) 2 ++ numB 0 4
theorem headB_length (n : Nat) : (headB n).length = 8 := by simp [headB, numB_length]
def badR (r : Rg) : Bool := decide (r.2 < 0) || decide (4294967296 ≤ r.2)
def prE (l : List Rg) : Int := if 32 < l.length then 3 else if l.any badR then 3 else 0
def prL (l : List Rg) : List UInt8 := if prE l = 0 then headB l.length ++ l.flatMap rgB else []
def rgV (bs : List UInt8) (a s : Nat) : Int := valB ((bs.drop a).take s)
def rgM (bs : List UInt8) : Nat := (bs.length - 8) / 16
def rgBad (bs : List UInt8) : Bool := !(rgV bs 0 2 == (bs.length : Int) - 2) || !(rgV bs 2 2 == (bs.length : Int) - 8) || !(rgV bs 2 2 % 16 == 0) || !(rgV bs 4 4 == 0)
def rgBadI (bs : List UInt8) (i : Nat) : Bool := !(rgV bs (8 + 16 * i + 12) 4 == 0)
def rgI (bs : List UInt8) (i : Nat) : Rg := (rgV bs (8 + 16 * i) 8, rgV bs (8 + 16 * i + 8) 4)
def rgE (bs : List UInt8) : Int := if bs.length < 8 then 10 else if rgBad bs || anyB (rgBadI bs) (rgM bs) then 11 else if 32 < rgM bs then 3 else 0
def rgL (bs : List UInt8) : List Rg := if rgE bs = 0 then (List.range (rgM bs)).map (rgI bs) else []
theorem rgV_range (bs : List UInt8) (a s : Nat) (hs : s ≤ 8) : 0 ≤ rgV bs a s ∧ rgV bs a s ≤ 18446744073709551615 ∧ (s ≤ 4 → rgV bs a s ≤ 4294967295) ∧ (s ≤ 2 → rgV bs a s ≤ 65535) := by
  have h := valB_range ((bs.drop a).take s)
  have hl : ((bs.drop a).take s).length ≤ s := List.length_take_le _ _
  have hp : ∀ m : Nat, s ≤ m → (256 : Int) ^ ((bs.drop a).take s).length ≤ 256 ^ m := fun m hm => by
    have h2 : ((256 ^ ((bs.drop a).take s).length : Nat) : Int) ≤ ((256 ^ m : Nat) : Int) := Int.ofNat_le.2 (Nat.pow_le_pow_right (by decide) (by omega))
    simpa [Int.natCast_pow] using h2
  have h8 := hp 8 hs
  have e8 : (256 : Int) ^ 8 = 18446744073709551616 := by decide
  have e4 : (256 : Int) ^ 4 = 4294967296 := by decide
  have e2 : (256 : Int) ^ 2 = 65536 := by decide
  unfold rgV
  refine ⟨h.1, by omega, fun h4 => ?_, fun h2 => ?_⟩
  · have := hp 4 h4; omega
  · have := hp 2 h2; omega
theorem numB_rgV (bs : List UInt8) (a s : Nat) (h : a + s ≤ bs.length) : numB (rgV bs a s) s = (bs.drop a).take s := by
  have hl : ((bs.drop a).take s).length = s := by rw [List.length_take, List.length_drop]; omega
  have := numB_valB ((bs.drop a).take s)
  rw [hl] at this
  exact this
theorem take_drop_join (bs : List UInt8) (a s t : Nat) : (bs.drop a).take s ++ (bs.drop (a + s)).take t = (bs.drop a).take (s + t) := by
  rw [← List.drop_drop, ← List.take_append_drop s ((bs.drop a).take (s + t)), List.take_take, Nat.min_eq_left (by omega), List.drop_take]
  congr 2
  omega
theorem rg_good {bs : List UInt8} (h : rgE bs = 0) : 8 ≤ bs.length ∧ bs.length = 8 + 16 * rgM bs ∧ rgM bs ≤ 32 ∧ rgV bs 0 2 = (bs.length : Int) - 2 ∧ rgV bs 2 2 = (bs.length : Int) - 8 ∧ rgV bs 4 4 = 0 ∧ ∀ i, i < rgM bs → rgV bs (8 + 16 * i + 12) 4 = 0 := by
  unfold rgE at h
  split at h
  · omega
  · rename_i h8
    split at h
    · omega
    · rename_i hb
      split at h
      · omega
      · rename_i h32
        simp only [Bool.or_eq_true, not_or, Bool.not_eq_true] at hb
        obtain ⟨hb1, hb2⟩ := hb
        unfold rgBad at hb1
        simp only [Bool.or_eq_false_iff, Bool.not_eq_false', beq_iff_eq] at hb1
        obtain ⟨⟨⟨b1, b2⟩, b3⟩, b4⟩ := hb1
        refine ⟨by omega, ?_, by omega, b1, b2, b4, fun i hi => ?_⟩
        · unfold rgM; omega
        · have := anyB_false hb2 i hi
          unfold rgBadI at this
          simpa using this
theorem rg_bytes {bs : List UInt8} (hl : bs.length = 8 + 16 * rgM bs) (hz : ∀ i, i < rgM bs → rgV bs (8 + 16 * i + 12) 4 = 0) : ∀ k, k ≤ rgM bs → ((List.range k).map (rgI bs)).flatMap rgB = (bs.drop 8).take (16 * k)
  | 0, _ => by simp
  | k + 1, h => by
    rw [List.range_succ, List.map_append, List.flatMap_append, rg_bytes hl hz k (by omega)]
    have e : ([k].map (rgI bs)).flatMap rgB = (bs.drop (8 + 16 * k)).take 16 := by
      simp only [List.map_cons, List.map_nil, List.flatMap_cons, List.flatMap_nil, List.append_nil]
      unfold rgB rgI
      simp only
      have z := hz k (by omega)
      rw [← z, numB_rgV bs (8 + 16 * k) 8 (by omega), numB_rgV bs (8 + 16 * k + 8) 4 (by omega), numB_rgV bs (8 + 16 * k + 12) 4 (by omega)]
      rw [take_drop_join, show 8 + 16 * k + 12 = 8 + 16 * k + (8 + 4) by omega, take_drop_join]
    rw [e, take_drop_join, show 16 * (k + 1) = 16 * k + 16 by omega]
/-- What is read is written as the same bytes. -/
theorem rg_back {bs : List UInt8} (h : rgE bs = 0) : prE (rgL bs) = 0 ∧ prL (rgL bs) = bs := by
  obtain ⟨h8, hl, h32, b1, b2, b4, hz⟩ := rg_good h
  have hL : rgL bs = (List.range (rgM bs)).map (rgI bs) := by unfold rgL; rw [if_pos h]
  have hlen : (rgL bs).length = rgM bs := by rw [hL]; simp
  have hE : prE (rgL bs) = 0 := by
    unfold prE
    rw [hlen, if_neg (by omega)]
    have : (rgL bs).any badR = false := by
      rw [List.any_eq_false]
      intro r hr
      rw [hL] at hr
      obtain ⟨i, _, rfl⟩ := List.mem_map.1 hr
      have := rgV_range bs (8 + 16 * i + 8) 4 (by omega)
      have h4 := this.2.2.1 (by omega)
      unfold badR rgI
      simp only [Bool.or_eq_true, decide_eq_true_eq, not_or]
      omega
    rw [this]
    rfl
  refine ⟨hE, ?_⟩
  unfold prL
  rw [if_pos hE, hlen, hL, rg_bytes hl hz (rgM bs) (Nat.le_refl _)]
  have e1 : (bs.drop 8).take (16 * rgM bs) = bs.drop 8 := List.take_of_length_le (by rw [List.length_drop]; omega)
  have e2 : headB (rgM bs) = bs.take 8 := by
    unfold headB
    have c1 : 16 * (rgM bs : Int) + 6 = rgV bs 0 2 := by rw [b1]; omega
    have c2 : 16 * (rgM bs : Int) = rgV bs 2 2 := by rw [b2]; omega
    rw [c1, c2, ← b4, numB_rgV bs 0 2 (by omega), numB_rgV bs 2 2 (by omega), numB_rgV bs 4 4 (by omega)]
    have := take_drop_join bs 0 2 2
    rw [Nat.zero_add] at this
    rw [this]
    have := take_drop_join bs 0 4 4
    rw [Nat.zero_add] at this
    rw [this, List.drop_zero]
  rw [e1, e2, List.take_append_drop]
theorem flat_drop (l : List Rg) : ∀ i, (l.flatMap rgB).drop (16 * i) = (l.drop i).flatMap rgB := by
  induction l with
  | nil => intro i; simp
  | cons r l ih =>
    intro i
    match i with
    | 0 => simp
    | i + 1 =>
      rw [List.flatMap_cons, List.drop_succ_cons, ← ih i]
      have e : 16 * (i + 1) = (rgB r).length + 16 * i := by rw [rgB_length]; omega
      rw [e, ← List.drop_drop, List.drop_left]
theorem flat_length (l : List Rg) : (l.flatMap rgB).length = 16 * l.length := by
  induction l with
  | nil => rfl
  | cons r l ih => rw [List.flatMap_cons, List.length_append, ih, rgB_length, List.length_cons]; omega
theorem valB_at (xs n2 : List UInt8) (n : Int) (s : Nat) (h0 : 0 ≤ n) (h1 : n < 256 ^ s) : valB ((numB n s ++ n2).take s) = n := by
  rw [List.take_left' (numB_length n s)]
  exact valB_numB n s h0 h1
/-- What is written is read as the same ranges. -/
theorem rg_put {l : List Rg} (hok : ∀ r ∈ l, Rg.ok r) (h : prE l = 0) : rgE (prL l) = 0 ∧ rgL (prL l) = l := by
  have hL : prL l = headB l.length ++ l.flatMap rgB := by unfold prL; rw [if_pos h]
  have hlen : (prL l).length = 8 + 16 * l.length := by rw [hL, List.length_append, headB_length, flat_length]
  have h32 : l.length ≤ 32 ∧ l.any badR = false := by
    unfold prE at h
    split at h
    · omega
    · split at h
      · omega
      · rename_i h1 h2
        exact ⟨by omega, by simpa using h2⟩
  have hM : rgM (prL l) = l.length := by unfold rgM; rw [hlen]; omega
  have p2 : (256 : Int) ^ 2 = 65536 := by decide
  have p4 : (256 : Int) ^ 4 = 4294967296 := by decide
  have p8 : (256 : Int) ^ 8 = 18446744073709551616 := by decide
  have v0 : rgV (prL l) 0 2 = 16 * (l.length : Int) + 6 := by
    unfold rgV
    rw [hL, List.drop_zero]
    unfold headB
    rw [List.append_assoc, List.append_assoc]
    exact valB_at [] _ _ 2 (by omega) (by omega)
  have v2 : rgV (prL l) 2 2 = 16 * (l.length : Int) := by
    unfold rgV
    rw [hL]
    unfold headB
    rw [List.append_assoc, List.append_assoc, List.drop_left' (numB_length _ 2)]
    exact valB_at [] _ _ 2 (by omega) (by omega)
  have v4 : rgV (prL l) 4 4 = 0 := by
    unfold rgV
    rw [hL]
    unfold headB
    rw [List.append_assoc, List.drop_left' (by rw [List.length_append, numB_length, numB_length])]
    exact valB_at [] _ _ 4 (by omega) (by omega)
  have hat : ∀ i (hi : i < l.length), (prL l).drop (8 + 16 * i) = rgB l[i] ++ (l.drop (i + 1)).flatMap rgB := fun i hi => by
    rw [hL, ← List.drop_drop, List.drop_left' (headB_length _), flat_drop, List.drop_eq_getElem_cons hi, List.flatMap_cons]
  have hgood : ∀ i (hi : i < l.length), 0 ≤ l[i].2 ∧ l[i].2 < 4294967296 := fun i hi => by
    have := List.any_eq_false.1 h32.2 l[i] (List.getElem_mem hi)
    unfold badR at this
    simp only [Bool.or_eq_true, decide_eq_true_eq, not_or] at this
    omega
  have vz : ∀ i, i < l.length → rgV (prL l) (8 + 16 * i + 12) 4 = 0 := fun i hi => by
    unfold rgV
    rw [← List.drop_drop, hat i hi]
    unfold rgB
    rw [List.append_assoc, List.drop_left' (by rw [List.length_append, numB_length, numB_length])]
    exact valB_at [] _ _ 4 (by omega) (by omega)
  have vi : ∀ i (hi : i < l.length), rgI (prL l) i = l[i] := fun i hi => by
    have ho := hok l[i] (List.getElem_mem hi)
    have hg := hgood i hi
    have d8 : (prL l).drop (8 + 16 * i + 8) = ((prL l).drop (8 + 16 * i)).drop 8 := by rw [List.drop_drop]
    unfold rgI rgV
    rw [d8, hat i hi]
    unfold rgB
    have e1 : valB ((numB l[i].1 8 ++ (numB l[i].2 4 ++ (numB 0 4 ++ (l.drop (i + 1)).flatMap rgB))).take 8) = l[i].1 := valB_at [] _ _ 8 ho.1.1 (by have := ho.1.2; omega)
    have e2 : valB ((numB l[i].2 4 ++ (numB 0 4 ++ (l.drop (i + 1)).flatMap rgB)).take 4) = l[i].2 := valB_at [] _ _ 4 hg.1 (by omega)
    simp only [List.append_assoc]
    rw [List.drop_left' (numB_length _ 8)]
    unfold rgB at e1 e2
    simp only [List.append_assoc] at e1 e2
    rw [e1, e2]
  have hE : rgE (prL l) = 0 := by
    unfold rgE
    rw [hlen, if_neg (by omega), hM]
    have hb : rgBad (prL l) = false := by
      unfold rgBad
      rw [v0, v2, v4, hlen]
      simp only [Bool.or_eq_false_iff, Bool.not_eq_false', beq_iff_eq]
      refine ⟨⟨⟨by omega, by omega⟩, by omega⟩, by trivial⟩
    have hi : anyB (rgBadI (prL l)) l.length = false := anyB_of fun i hi => by unfold rgBadI; rw [vz i hi]; rfl
    rw [hb, hi, if_neg (by simp), if_neg (by omega)]
  refine ⟨hE, ?_⟩
  unfold rgL
  rw [if_pos hE, hM]
  refine List.ext_getElem (by simp) fun i h1 h2 => ?_
  rw [List.getElem_map, List.getElem_range]
  exact vi i h2
end Go.Proofs.YtmaofhiapkfoaaaDoor
