/- PutRanges, the program's and the reference's. -/
import Derived.Test.YtmaofhiapkfoaaaDoorCdbU
import Derived.Deep.QuietTactic
import Derived.BigQuiet
namespace Go.Proofs.YtmaofhiapkfoaaaDoor
open Go.RowKit
set_option linter.unusedVariables false
set_option linter.unusedSimpArgs false
set_option maxRecDepth 20000
theorem flat_at (l : List Rg) : ∀ i (hi : i < l.length), (l.flatMap rgC)[i * 2]? = some (.int .u64 l[i].1) ∧ (l.flatMap rgC)[i * 2 + 1]? = some (.int .i64 l[i].2) := by
  induction l with
  | nil => intro i hi; simp at hi
  | cons r l ih =>
    intro i hi
    match i with
    | 0 => exact ⟨rfl, rfl⟩
    | i + 1 =>
      have := ih i (by simpa using hi)
      rw [List.flatMap_cons]
      unfold rgC
      simp only [List.cons_append, List.nil_append, List.getElem_cons_succ]
      rw [show (i + 1) * 2 = i * 2 + 2 by omega, show i * 2 + 2 + 1 = i * 2 + 1 + 2 by omega]
      exact this
theorem flat_len (l : List Rg) : (l.flatMap rgC).length = l.length * 2 := by
  induction l with
  | nil => rfl
  | cons r l ih => rw [List.flatMap_cons, List.length_append, ih]; simp [rgC]; omega
/-- A row of ranges, opened. -/
theorem rdr_rg {w : World} {v : Value} {l : List Rg} (h : Rdr w v 2 (l.flatMap rgC)) : ∃ A cap, v = .slice A l.length cap ∧ l.length ≤ cap ∧ cap ≤ 9223372036854775807 ∧
    ∀ i (hi : i < l.length), ∃ b off, A = some ⟨b, off, none⟩ ∧ w.cell? ⟨b, off + i * 2, none⟩ = some (.int .u64 l[i].1) ∧ w.cell? ⟨b, off + i * 2 + 1, none⟩ = some (.int .i64 l[i].2) := by
  obtain ⟨A, n, cap, rfl, h1, h2, h3, h4⟩ := h
  rw [flat_len] at h1
  have hn : n = l.length := by omega
  subst hn
  refine ⟨A, cap, rfl, h2, h3, fun i hi => ?_⟩
  rcases h4 with h4 | ⟨b, off, hA, hc⟩
  · have := flat_len l
    rw [h4] at this
    simp at this
    omega
  · obtain ⟨f1, f2⟩ := flat_at l i hi
    exact ⟨b, off, hA, hc _ _ f1, by have := hc _ _ f2; rwa [← Nat.add_assoc] at this⟩
theorem wr3 (bs : List UInt8) (e lba N : Int) (he : e = 0 ∨ e = 3) (hN : 0 ≤ N) :
    wrE (wrE (wrE e 8 lba) 4 N) 4 0 = (if e = 0 ∧ N < 4294967296 then 0 else 3) ∧ ((if e = 0 ∧ N < 4294967296 then (0 : Int) else 3) = 0 → wrL (wrL (wrL bs e 8 lba) (wrE e 8 lba) 4 N) (wrE (wrE e 8 lba) 4 N) 4 0 = bs ++ (numB lba 8 ++ numB N 4 ++ numB 0 4)) ∧
      (wrL (wrL (wrL bs e 8 lba) (wrE e 8 lba) 4 N) (wrE (wrE e 8 lba) 4 N) 4 0).length ≤ bs.length + 16 := by
  have t32 : (2 : Int) ^ (8 * 4 : Int).toNat = 4294967296 := by decide
  have t31 : (2 : Int) ^ (8 * 4 - 1 : Int).toNat = 2147483648 := by decide
  have z3 : ∀ s n, wrE 3 s n = 3 := fun s n => by unfold wrE; simp
  have z8 : ∀ n, wrE 0 8 n = 0 := wrE8
  have z4 : wrE 0 4 0 = 0 := by unfold wrE; simp
  have zN : wrE 0 4 N = if N < 4294967296 then 0 else 3 := by
    unfold wrE
    simp only [ne_eq, not_true_eq_false, if_false, t31, t32]
    by_cases h : N < 4294967296
    · rw [if_neg (by omega), if_neg (by omega), if_pos h]
    · rw [if_neg (by omega), if_pos (by omega), if_neg h]
  have l3 : ∀ b s n, wrL b 3 s n = b := fun b s n => by unfold wrL; rw [z3]; rfl
  rcases he with rfl | rfl
  · rw [z8, wrL8, zN]
    by_cases h : N < 4294967296
    · have e1 : wrL (bs ++ numB lba 8) 0 4 N = bs ++ numB lba 8 ++ numB N 4 := by unfold wrL; rw [zN, if_pos h]; rfl
      have e2 : wrL (bs ++ numB lba 8 ++ numB N 4) 0 4 0 = bs ++ numB lba 8 ++ numB N 4 ++ numB 0 4 := by unfold wrL; rw [z4]; rfl
      rw [if_pos h, if_pos ⟨rfl, h⟩, z4, e1, e2]
      refine ⟨rfl, fun _ => by simp only [List.append_assoc], ?_⟩
      rw [List.length_append, List.length_append, List.length_append, numB_length, numB_length, numB_length]
      omega
    · have e1 : wrL (bs ++ numB lba 8) 0 4 N = bs ++ numB lba 8 := by unfold wrL; rw [zN, if_neg h]; rfl
      rw [if_neg h, if_neg (fun x => h x.2), z3, e1, l3]
      refine ⟨rfl, fun x => by omega, ?_⟩
      rw [List.length_append, numB_length]
      omega
  · rw [z3, z3, z3, l3, l3, l3, if_neg (fun x => by omega)]
    exact ⟨rfl, fun x => by omega, by omega⟩
theorem wr2 (bs : List UInt8) (n : Int) (h0 : 0 ≤ n) (h1 : n < 65536) : wrE 0 2 n = 0 ∧ wrL bs 0 2 n = bs ++ numB n 2 := by
  have t16 : (2 : Int) ^ (8 * 2 : Int).toNat = 65536 := by decide
  have t15 : (2 : Int) ^ (8 * 2 - 1 : Int).toNat = 32768 := by decide
  have hE : wrE 0 2 n = 0 := by
    unfold wrE
    simp only [ne_eq, not_true_eq_false, if_false, t15, t16]
    rw [if_neg (by omega), if_neg (by omega)]
  exact ⟨hE, by unfold wrL; rw [hE]; rfl⟩
theorem wr4z (bs : List UInt8) : wrE 0 4 0 = 0 ∧ wrL bs 0 4 0 = bs ++ numB 0 4 := by
  have hE : wrE 0 4 0 = 0 := by unfold wrE; simp
  exact ⟨hE, by unfold wrL; rw [hE]; rfl⟩
def bigR (r : Rg) : Bool := decide (4294967296 ≤ r.2)
/-- The writer's state behind i ranges. -/
def PR (w wr : World) (l : List Rg) (i : Nat) (bs : List UInt8) (e : Int) : Prop :=
  (∃ v, WObj w.heap.size wr w.heap.size v bs e) ∧ Same w wr ∧ bs.length ≤ 8 + 16 * i ∧ e = (if (l.take i).any bigR then 3 else 0) ∧ (e = 0 → bs = headB l.length ++ (l.take i).flatMap rgB) ∧ ∀ j (hj : j < l.length), j < i → 0 ≤ l[j].2
theorem take_any (l : List Rg) (f : Rg → Bool) (i : Nat) (hi : i < l.length) : (l.take (i + 1)).any f = ((l.take i).any f || f l[i]) := by
  rw [List.take_succ_eq_append_getElem hi, List.any_append]; simp
theorem take_flat (l : List Rg) (i : Nat) (hi : i < l.length) : (l.take (i + 1)).flatMap rgB = (l.take i).flatMap rgB ++ rgB l[i] := by
  rw [List.take_succ_eq_append_getElem hi, List.flatMap_append]; simp
theorem pr_e {w wr : World} {l : List Rg} {i : Nat} {bs : List UInt8} {e : Int} (h : PR w wr l i bs e) : e = 0 ∨ e = 3 := by
  rw [h.2.2.2.1]
  split
  · exact .inr rfl
  · exact .inl rfl
theorem pr_step {w wr w' : World} {l : List Rg} {i : Nat} {bs : List UInt8} {e : Int} {v : Value} (h : PR w wr l i bs e) (hi : i < l.length) (hN : 0 ≤ l[i].2)
    (ho : WObj w.heap.size w' w.heap.size v (wrL (wrL (wrL bs e 8 (i64w l[i].1)) (wrE e 8 (i64w l[i].1)) 4 l[i].2) (wrE (wrE e 8 (i64w l[i].1)) 4 l[i].2) 4 0) (wrE (wrE (wrE e 8 (i64w l[i].1)) 4 l[i].2) 4 0)) (hs : Same w w') :
    ∃ bs' e', PR w w' l (i + 1) bs' e' := by
  obtain ⟨w1, w2, w3⟩ := wr3 bs e (i64w l[i].1) l[i].2 (pr_e h) hN
  obtain ⟨h1, h2, h3, h4, h5, h6⟩ := h
  rw [w1] at ho
  refine ⟨_, _, ⟨v, ho⟩, hs, by omega, ?_, fun h0 => ?_, fun j hj hji => ?_⟩
  · rw [take_any l bigR i hi]
    have hb : bigR l[i] = !decide (l[i].2 < 4294967296) := by
      unfold bigR
      by_cases hh : l[i].2 < 4294967296
      · simp [hh]
      · simp [hh]; omega
    rw [hb, h4]
    cases (l.take i).any bigR
    · by_cases hh : l[i].2 < 4294967296 <;> simp [hh]
    · simp
  · rw [w2 h0]
    have he : e = 0 := by
      by_cases he : e = 0
      · exact he
      · rw [if_neg (fun x => he x.1)] at h0; omega
    rw [h5 he, take_flat l i hi, List.append_assoc]
    congr 1
    congr 1
    unfold rgB
    rw [numB_i64w _ 8 (by omega)]
  · by_cases hji' : j < i
    · exact h6 j hj hji'
    · have : j = i := by omega
      subst this
      exact hN
theorem pr_end {w wr : World} {l : List Rg} {bs : List UInt8} {e : Int} (h : PR w wr l l.length bs e) (hl : ¬ 32 < l.length) : prE l = e ∧ (if e = 0 then bs else []) = prL l := by
  obtain ⟨h1, h2, h3, h4, h5, h6⟩ := h
  rw [List.take_length] at h4 h5
  have hany : l.any badR = l.any bigR := by
    have : ∀ r ∈ l, badR r = bigR r := fun r hr => by
      obtain ⟨j, hj, rfl⟩ := List.getElem_of_mem hr
      have := h6 j hj hj
      have e0 : decide (l[j].2 < 0) = false := by simp; omega
      unfold badR bigR
      rw [e0, Bool.false_or]
    rw [Bool.eq_iff_iff, List.any_eq_true, List.any_eq_true]
    constructor
    · rintro ⟨r, hr, hb⟩; exact ⟨r, hr, by rw [← this r hr]; exact hb⟩
    · rintro ⟨r, hr, hb⟩; exact ⟨r, hr, by rw [this r hr]; exact hb⟩
  have hE : prE l = e := by unfold prE; rw [if_neg hl, hany, h4]
  refine ⟨hE, ?_⟩
  unfold prL
  rw [hE]
  split
  · rename_i h0; exact h5 h0
  · rfl
theorem pr_neg (l : List Rg) (i : Nat) (hi : i < l.length) (h : l[i].2 < 0 ∨ 4294967296 ≤ l[i].2) : prE l = 3 ∧ prL l = [] := by
  have hany : l.any badR = true := by
    rw [List.any_eq_true]
    refine ⟨l[i], List.getElem_mem hi, ?_⟩
    unfold badR
    rcases h with h | h <;> simp [h]
  have hE : prE l = 3 := by unfold prE; rw [hany]; simp
  refine ⟨hE, ?_⟩
  unfold prL
  rw [hE]
  rfl
end Go.Proofs.YtmaofhiapkfoaaaDoor
