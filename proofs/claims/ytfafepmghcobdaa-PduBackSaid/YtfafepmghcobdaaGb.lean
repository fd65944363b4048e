/- Texts that serve the proofs of this chapter, put together. -/
import Derived.Test.YtfafepmghcobdaaGa
import Derived.Test.YtfafepmghcobdaaCrc
import Derived.Test.YtfafepmghcobdaaTurn
import Derived.Lib.Hide
import Derived.Laws.RangeString
import Derived.Lib.OthersKept
namespace Go.Proofs.Ytfafepmghcobdaa
section
open Go.RowKit
set_option linter.unusedVariables false
set_option linter.unusedSimpArgs false
set_option maxRecDepth 20000
/-- A letter. -/
structure Pd where
  op : Int
  now : Bool
  flags : Int
  b2 : Int
  b3 : Int
  lun : Int
  task : Int
  w : List Int
  data : List UInt8
/-- What is agreed on. -/
structure Ag where
  hs : Bool
  ds : Bool
  most : Int
def Ag.right (o : Ag) : Bool := decide (48 ≤ o.most ∧ o.most ≤ 65536)
/-- The numbers that came in are numbers of their kinds. -/
def Pd.ok (p : Pd) : Prop := (0 ≤ p.lun ∧ p.lun ≤ 18446744073709551615) ∧ (0 ≤ p.task ∧ p.task ≤ 4294967295) ∧ p.w.length = 7 ∧ ∀ n ∈ p.w, 0 ≤ n ∧ n ≤ 4294967295
def Pd.fits (p : Pd) : Bool := decide ((0 ≤ p.op ∧ p.op ≤ 63) ∧ (0 ≤ p.flags ∧ p.flags ≤ 255) ∧ (0 ≤ p.b2 ∧ p.b2 ≤ 255) ∧ (0 ≤ p.b3 ∧ p.b3 ≤ 255))
def firstP (p : Pd) : Int := p.op + if p.now then 64 else 0
/-- A head. -/
def headL (p : Pd) : List UInt8 := numB (firstP p) 1 ++ (numB p.flags 1 ++ (numB p.b2 1 ++ (numB p.b3 1 ++ (numB p.data.length 4 ++ (numB p.lun 8 ++ (numB p.task 4 ++ p.w.flatMap fun n => numB n 4))))))
theorem wordsB_length (w : List Int) : (w.flatMap fun n => numB n 4).length = 4 * w.length := by
  induction w with
  | nil => rfl
  | cons n w ih => rw [List.flatMap_cons, List.length_append, ih, numB_length, List.length_cons]; omega
theorem headL_length {p : Pd} (h : p.w.length = 7) : (headL p).length = 48 := by
  unfold headL
  simp only [List.length_append, numB_length, wordsB_length, h]
def padN (n : Nat) : Nat := (4 - n % 4) % 4
/-- The data with what is missing to four. -/
def fullD (d : List UInt8) : List UInt8 := d ++ List.replicate (padN d.length) 0
def sumL (yes : Bool) (d : List UInt8) : List UInt8 := if yes then crcDigest (crcSum d) else []
def pduE (p : Pd) (o : Ag) : Int := if o.right && p.fits then (if o.most < p.data.length then 3 else 0) else 1
/-- A letter's bytes. -/
def rawL (p : Pd) (o : Ag) : List UInt8 := headL p ++ (sumL o.hs (headL p) ++ (fullD p.data ++ sumL (o.ds && decide (0 < p.data.length)) (fullD p.data)))
def pduL (p : Pd) (o : Ag) : List UInt8 := if pduE p o = 0 then rawL p o else []
theorem sumL_length (yes : Bool) (d : List UInt8) : (sumL yes d).length = if yes then 4 else 0 := by cases yes <;> rfl
theorem fullD_length (d : List UInt8) : (fullD d).length = d.length + padN d.length := by simp [fullD]
/-- A number at a place. -/
def pn (bs : List UInt8) (a s : Nat) : Int := valB ((bs.drop a).take s)
theorem pn_range (bs : List UInt8) (a s : Nat) : 0 ≤ pn bs a s ∧ pn bs a s < 256 ^ s := by
  have h := valB_range ((bs.drop a).take s)
  have hl : ((bs.drop a).take s).length ≤ s := List.length_take_le _ _
  have hp : (256 : Int) ^ ((bs.drop a).take s).length ≤ 256 ^ s := by
    have h2 : ((256 ^ ((bs.drop a).take s).length : Nat) : Int) ≤ ((256 ^ s : Nat) : Int) := Int.ofNat_le.2 (Nat.pow_le_pow_right (by decide) hl)
    simpa [Int.natCast_pow] using h2
  unfold pn
  exact ⟨h.1, by omega⟩
theorem pn_at {xs zs : List UInt8} {a s : Nat} {n : Int} (hx : xs.length = a) (h0 : 0 ≤ n) (h1 : n < 256 ^ s) : pn (xs ++ (numB n s ++ zs)) a s = n := by
  unfold pn
  rw [List.drop_left' hx, List.take_left' (numB_length n s)]
  exact valB_numB n s h0 h1
/-- What a head says. -/
def parseP (bs : List UInt8) : Pd := { op := pn bs 0 1 % 64, now := decide (64 ≤ pn bs 0 1 % 128), flags := pn bs 1 1, b2 := pn bs 2 1, b3 := pn bs 3 1, lun := pn bs 8 8, task := pn bs 16 4, w := (List.range 7).map fun i => pn bs (20 + 4 * i) 4, data := [] }
def parseE (bs : List UInt8) : Int := if pn bs 4 1 ≠ 0 ∨ 127 < pn bs 0 1 then 11 else 0
def noP : Pd := { op := 0, now := false, flags := 0, b2 := 0, b3 := 0, lun := 0, task := 0, w := List.replicate 7 0, data := [] }
/-- A reader. -/
structure Rd1 where
  o : Ag
  b : List UInt8
  dead : Bool
def Rd1.die (r : Rd1) : Rd1 := { r with b := [], dead := true }
def Rd1.at_ (r : Rd1) : Nat := if r.o.hs then 52 else 48
def sizeP (bs : List UInt8) : Nat := (pn bs 5 3).toNat
/-- How many bytes the next letter has. -/
def Rd1.all (r : Rd1) : Nat := r.at_ + (sizeP r.b + padN (sizeP r.b)) + if r.o.ds && decide (0 < sizeP r.b) then 4 else 0
/-- The data of the next letter, and their digest. -/
def Rd1.d (r : Rd1) : List UInt8 := (r.b.drop r.at_).take (sizeP r.b + padN (sizeP r.b))
def Rd1.sum (r : Rd1) : List UInt8 := (r.b.drop (r.at_ + (sizeP r.b + padN (sizeP r.b)))).take (if r.o.ds && decide (0 < sizeP r.b) then 4 else 0)
def Rd1.rest (r : Rd1) : Rd1 := { r with b := r.b.drop r.all }
def Rd1.next (r : Rd1) : Pd × Int × Bool × Rd1 :=
  if r.dead then (noP, 21, true, r)
  else if r.b.length < r.at_ then (noP, 0, false, r)
  else if r.o.hs && !(crcDigest (crcSum (r.b.take 48)) == (r.b.drop 48).take 4) then (noP, 12, true, r.die)
  else if parseE r.b ≠ 0 then (noP, 11, true, r.die)
  else if r.o.most < (sizeP r.b : Int) then (noP, 3, true, r.die)
  else if r.b.length < r.all then (noP, 0, false, r)
  else if (r.o.ds && decide (0 < sizeP r.b)) && !(crcDigest (crcSum r.d) == r.sum) then (parseP r.b, 12, true, r.rest)
  else if (r.d.drop (sizeP r.b)).any (fun c => c != 0) then (parseP r.b, 11, true, r.rest)
  else ({ parseP r.b with data := r.d.take (sizeP r.b) }, 0, true, r.rest)
end
section
open Go.RowKit
set_option linter.unusedVariables false
set_option linter.unusedSimpArgs false
set_option maxRecDepth 20000
theorem pn_skip {xs ys : List UInt8} {k a s : Nat} (h : xs.length = k) : pn (xs ++ ys) (k + a) s = pn ys a s := by
  unfold pn
  rw [← List.drop_drop, List.drop_left' h]
theorem pn_head {zs : List UInt8} {s : Nat} {n : Int} (h0 : 0 ≤ n) (h1 : n < 256 ^ s) : pn (numB n s ++ zs) 0 s = n := pn_at (xs := []) rfl h0 h1
theorem words_at (zs : List UInt8) : ∀ (w : List Int), (∀ n ∈ w, 0 ≤ n ∧ n ≤ 4294967295) → ∀ i (hi : i < w.length), pn ((w.flatMap fun n => numB n 4) ++ zs) (4 * i) 4 = w[i]
  | [], _, i, hi => by simp at hi
  | n :: w, h, 0, hi => by
    rw [List.flatMap_cons, List.append_assoc]
    have := h n (by simp)
    exact pn_head this.1 (by have e : (256 : Int) ^ 4 = 4294967296 := by decide
                             omega)
  | n :: w, h, i + 1, hi => by
    rw [List.flatMap_cons, List.append_assoc, show 4 * (i + 1) = 4 + 4 * i by omega, pn_skip (numB_length _ _)]
    exact words_at zs w (fun m hm => h m (by simp [hm])) i (by simpa using hi)
theorem numB4_3 (n : Nat) (h : n ≤ 65536) : numB n 4 = numB 0 1 ++ numB n 3 := by
  rw [show (4 : Nat) = 3 + 1 from rfl, numB]
  have e : ((n : Int) / 256 ^ 3 % 256) = 0 := by
    have e : (256 : Int) ^ 3 = 16777216 := by decide
    rw [e]
    omega
  rw [e]
  rfl
/-- What the places of a head say. -/
theorem head_says {p : Pd} (hok : p.ok) (hf : p.fits = true) (hl : p.data.length ≤ 65536) (zs : List UInt8) :
    pn (headL p ++ zs) 0 1 = firstP p ∧ pn (headL p ++ zs) 1 1 = p.flags ∧ pn (headL p ++ zs) 2 1 = p.b2 ∧ pn (headL p ++ zs) 3 1 = p.b3 ∧ pn (headL p ++ zs) 4 1 = 0 ∧ pn (headL p ++ zs) 5 3 = p.data.length ∧ pn (headL p ++ zs) 8 8 = p.lun ∧ pn (headL p ++ zs) 16 4 = p.task ∧ ∀ i (hi : i < p.w.length), pn (headL p ++ zs) (20 + 4 * i) 4 = p.w[i] := by
  obtain ⟨hlun, htask, hw7, hw⟩ := hok
  unfold Pd.fits at hf
  have hf := of_decide_eq_true hf
  obtain ⟨f1, f2, f3, f4⟩ := hf
  have hfirst : 0 ≤ firstP p ∧ firstP p < 256 := by unfold firstP; split <;> omega
  have e1 : (256 : Int) ^ 1 = 256 := by decide
  have e3 : (256 : Int) ^ 3 = 16777216 := by decide
  have e4 : (256 : Int) ^ 4 = 4294967296 := by decide
  have e8 : (256 : Int) ^ 8 = 18446744073709551616 := by decide
  unfold headL
  rw [numB4_3 _ hl]
  simp only [List.append_assoc]
  refine ⟨pn_head hfirst.1 (by omega), ?_, ?_, ?_, ?_, ?_, ?_, ?_, ?_⟩
  · exact (pn_skip (k := 1) (a := 0) (numB_length _ _)).trans (pn_head f2.1 (by omega))
  · exact (pn_skip (k := 1) (a := 1) (numB_length _ _)).trans ((pn_skip (k := 1) (a := 0) (numB_length _ _)).trans (pn_head f3.1 (by omega)))
  · exact (pn_skip (k := 1) (a := 2) (numB_length _ _)).trans ((pn_skip (k := 1) (a := 1) (numB_length _ _)).trans ((pn_skip (k := 1) (a := 0) (numB_length _ _)).trans (pn_head f4.1 (by omega))))
  · exact (pn_skip (k := 1) (a := 3) (numB_length _ _)).trans ((pn_skip (k := 1) (a := 2) (numB_length _ _)).trans ((pn_skip (k := 1) (a := 1) (numB_length _ _)).trans ((pn_skip (k := 1) (a := 0) (numB_length _ _)).trans (pn_head (by omega) (by omega)))))
  · exact (pn_skip (k := 1) (a := 4) (numB_length _ _)).trans ((pn_skip (k := 1) (a := 3) (numB_length _ _)).trans ((pn_skip (k := 1) (a := 2) (numB_length _ _)).trans ((pn_skip (k := 1) (a := 1) (numB_length _ _)).trans ((pn_skip (k := 1) (a := 0) (numB_length _ _)).trans (pn_head (by omega) (by omega))))))
  · exact (pn_skip (k := 1) (a := 7) (numB_length _ _)).trans ((pn_skip (k := 1) (a := 6) (numB_length _ _)).trans ((pn_skip (k := 1) (a := 5) (numB_length _ _)).trans ((pn_skip (k := 1) (a := 4) (numB_length _ _)).trans ((pn_skip (k := 1) (a := 3) (numB_length _ _)).trans ((pn_skip (k := 3) (a := 0) (numB_length _ _)).trans (pn_head hlun.1 (by omega)))))))
  · exact (pn_skip (k := 1) (a := 15) (numB_length _ _)).trans ((pn_skip (k := 1) (a := 14) (numB_length _ _)).trans ((pn_skip (k := 1) (a := 13) (numB_length _ _)).trans ((pn_skip (k := 1) (a := 12) (numB_length _ _)).trans ((pn_skip (k := 1) (a := 11) (numB_length _ _)).trans ((pn_skip (k := 3) (a := 8) (numB_length _ _)).trans ((pn_skip (k := 8) (a := 0) (numB_length _ _)).trans (pn_head htask.1 (by omega))))))))
  · intro i hi
    rw [show 20 + 4 * i = 1 + (1 + (1 + (1 + (1 + (3 + (8 + (4 + 4 * i))))))) by omega, pn_skip (numB_length _ _), pn_skip (numB_length _ _), pn_skip (numB_length _ _), pn_skip (numB_length _ _), pn_skip (numB_length _ _), pn_skip (numB_length _ _), pn_skip (numB_length _ _), pn_skip (numB_length _ _)]
    exact words_at zs p.w hw i hi
theorem parse_head {p : Pd} (hok : p.ok) (hf : p.fits = true) (hl : p.data.length ≤ 65536) (zs : List UInt8) :
    parseP (headL p ++ zs) = { p with data := [] } ∧ parseE (headL p ++ zs) = 0 ∧ sizeP (headL p ++ zs) = p.data.length := by
  obtain ⟨a0, a1, a2, a3, a4, a5, a8, a16, aw⟩ := head_says hok hf hl zs
  obtain ⟨_, _, hw7, _⟩ := hok
  unfold Pd.fits at hf
  obtain ⟨f1, f2, f3, f4⟩ := of_decide_eq_true hf
  have hop : firstP p % 64 = p.op := by unfold firstP; split <;> omega
  have hnow : decide (64 ≤ firstP p % 128) = p.now := by
    unfold firstP
    cases p.now
    · simp; omega
    · simp; omega
  have hle : firstP p ≤ 127 := by unfold firstP; split <;> omega
  have hw : (List.range 7).map (fun i => pn (headL p ++ zs) (20 + 4 * i) 4) = p.w := by
    refine List.ext_getElem (by simp [hw7]) fun i h1 h2 => ?_
    rw [List.getElem_map, List.getElem_range]
    exact aw i h2
  refine ⟨?_, ?_, ?_⟩
  · unfold parseP
    rw [a0, a1, a2, a3, a8, a16, hw, hop, hnow]
  · unfold parseE
    rw [a0, a4, if_neg (by omega)]
  · unfold sizeP
    rw [a5]
    simp
theorem pduE_zero {p : Pd} {o : Ag} (h : pduE p o = 0) : p.fits = true ∧ o.right = true ∧ p.data.length ≤ 65536 ∧ ¬ o.most < (p.data.length : Int) := by
  unfold pduE at h
  split at h
  · rename_i hr
    rw [Bool.and_eq_true] at hr
    split at h
    · omega
    · rename_i hm
      have := of_decide_eq_true hr.1
      exact ⟨hr.2, hr.1, by omega, hm⟩
  · omega
/-- Behind a right head: is all there? -/
theorem next_head {p : Pd} {o : Ag} (hok : p.ok) (h : pduE p o = 0) (zs : List UInt8) (r : Rd1) (hr : r = ⟨o, headL p ++ (sumL o.hs (headL p) ++ zs), false⟩) :
    r.next = if r.b.length < r.all then (noP, 0, false, r)
      else if (r.o.ds && decide (0 < p.data.length)) && !(crcDigest (crcSum r.d) == r.sum) then ({ p with data := [] }, 12, true, r.rest)
      else if (r.d.drop p.data.length).any (fun c => c != 0) then ({ p with data := [] }, 11, true, r.rest)
      else ({ p with data := r.d.take p.data.length }, 0, true, r.rest) := by
  obtain ⟨hf, hrt, hl, hm⟩ := pduE_zero h
  obtain ⟨q1, q2, q3⟩ := parse_head hok hf hl (sumL o.hs (headL p) ++ zs)
  have h48 := headL_length hok.2.2.1
  have hb : r.b = headL p ++ (sumL o.hs (headL p) ++ zs) := by rw [hr]
  have ho : r.o = o := by rw [hr]
  have hd : r.dead = false := by rw [hr]
  have n1 : ¬ r.b.length < r.at_ := by
    unfold Rd1.at_
    rw [hb, ho, List.length_append, List.length_append, sumL_length, h48]
    cases o.hs <;> simp <;> omega
  have n2 : (r.o.hs && !(crcDigest (crcSum (r.b.take 48)) == (r.b.drop 48).take 4)) = false := by
    rw [hb, ho, List.take_left' h48, List.drop_left' h48]
    cases o.hs
    · rfl
    · simp [sumL, crcDigest]
  rw [← hb] at q1 q2 q3
  unfold Rd1.next
  rw [hd, n2, q1, q2, q3, ho]
  simp only [Bool.false_eq_true, if_false, if_neg n1, ne_eq, not_true_eq_false, if_neg hm]
/-- How many bytes a letter has. -/
theorem rawL_length {p : Pd} {o : Ag} (h7 : p.w.length = 7) : (rawL p o).length = 48 + (if o.hs then 4 else 0) + (p.data.length + padN p.data.length) + if o.ds && decide (0 < p.data.length) then 4 else 0 := by
  unfold rawL
  rw [List.length_append, List.length_append, List.length_append, headL_length h7, sumL_length, sumL_length, fullD_length]
  omega
/-- What is put is told. -/
theorem next_put {p : Pd} {o : Ag} (hok : p.ok) (h : pduE p o = 0) (rest : List UInt8) : Rd1.next ⟨o, rawL p o ++ rest, false⟩ = (p, 0, true, ⟨o, rest, false⟩) := by
  obtain ⟨hf, hrt, hl, hm⟩ := pduE_zero h
  have h48 := headL_length hok.2.2.1
  have hb : rawL p o ++ rest = headL p ++ (sumL o.hs (headL p) ++ (fullD p.data ++ (sumL (o.ds && decide (0 < p.data.length)) (fullD p.data) ++ rest))) := by
    unfold rawL; simp only [List.append_assoc]
  have q3 := (parse_head hok hf hl (sumL o.hs (headL p) ++ (fullD p.data ++ (sumL (o.ds && decide (0 < p.data.length)) (fullD p.data) ++ rest)))).2.2
  rw [next_head hok h (fullD p.data ++ (sumL (o.ds && decide (0 < p.data.length)) (fullD p.data) ++ rest)) _ (by rw [hb])]
  rw [hb]
  generalize hr : (⟨o, headL p ++ (sumL o.hs (headL p) ++ (fullD p.data ++ (sumL (o.ds && decide (0 < p.data.length)) (fullD p.data) ++ rest))), false⟩ : Rd1) = r
  have rb : r.b = headL p ++ (sumL o.hs (headL p) ++ (fullD p.data ++ (sumL (o.ds && decide (0 < p.data.length)) (fullD p.data) ++ rest))) := by rw [← hr]
  have ro : r.o = o := by rw [← hr]
  have rd : r.dead = false := by rw [← hr]
  have hsz : sizeP r.b = p.data.length := by rw [rb]; exact q3
  have hat : r.at_ = (headL p ++ sumL o.hs (headL p)).length := by
    unfold Rd1.at_; rw [ro, List.length_append, h48, sumL_length]; cases o.hs <;> rfl
  have hfl := fullD_length p.data
  have hsl : (sumL (o.ds && decide (0 < p.data.length)) (fullD p.data)).length = if o.ds && decide (0 < p.data.length) then 4 else 0 := sumL_length _ _
  have d0 : r.b.drop r.at_ = fullD p.data ++ (sumL (o.ds && decide (0 < p.data.length)) (fullD p.data) ++ rest) := by
    rw [rb, ← List.append_assoc]; exact List.drop_left' hat.symm
  have hd : r.d = fullD p.data := by unfold Rd1.d; rw [hsz, d0, List.take_left' hfl]
  have hs : r.sum = sumL (o.ds && decide (0 < p.data.length)) (fullD p.data) := by
    unfold Rd1.sum; rw [hsz, ro, ← List.drop_drop, d0, List.drop_left' hfl, List.take_left' hsl]
  have hall : r.b.drop r.all = rest := by
    unfold Rd1.all
    rw [hsz, ro, ← List.drop_drop, ← List.drop_drop, d0, List.drop_left' hfl, List.drop_left' hsl]
  have n1 : ¬ r.b.length < r.all := by
    unfold Rd1.all
    rw [hsz, ro, hat, rb]
    simp only [List.length_append, hfl, hsl]
    omega
  have n2 : (r.o.ds && decide (0 < p.data.length) && !(crcDigest (crcSum r.d) == r.sum)) = false := by
    rw [ro, hd, hs]
    cases (o.ds && decide (0 < p.data.length)) <;> simp [sumL]
  have n3 : (r.d.drop p.data.length).any (fun c => c != 0) = false := by
    rw [hd]
    unfold fullD
    rw [List.drop_left' rfl, List.any_eq_false]
    intro c hc
    simp [List.eq_of_mem_replicate hc]
  have n4 : r.d.take p.data.length = p.data := by
    rw [hd]; unfold fullD; exact List.take_left' rfl
  rw [if_neg n1, n2, n3, n4]
  simp only [Bool.false_eq_true, if_false]
  unfold Rd1.rest
  rw [hall, ← hr]
/-- A letter that is not there whole is waited for. -/
theorem next_wait {p : Pd} {o : Ag} (hok : p.ok) (h : pduE p o = 0) (k : Nat) (hk : k < (rawL p o).length) : Rd1.next ⟨o, (rawL p o).take k, false⟩ = (noP, 0, false, ⟨o, (rawL p o).take k, false⟩) := by
  obtain ⟨hf, hrt, hl, hm⟩ := pduE_zero h
  have h48 := headL_length hok.2.2.1
  have hat : (headL p ++ sumL o.hs (headL p)).length = if o.hs then 52 else 48 := by
    rw [List.length_append, h48, sumL_length]; cases o.hs <;> rfl
  have hln : ((rawL p o).take k).length = k := by rw [List.length_take]; omega
  by_cases hka : k < if o.hs then 52 else 48
  · unfold Rd1.next
    have n1 : ((rawL p o).take k).length < Rd1.at_ ⟨o, (rawL p o).take k, false⟩ := by unfold Rd1.at_; rw [hln]; exact hka
    simp only [Bool.false_eq_true, if_false, if_pos n1]
  · have hraw : rawL p o = (headL p ++ sumL o.hs (headL p)) ++ (fullD p.data ++ sumL (o.ds && decide (0 < p.data.length)) (fullD p.data)) := by
      unfold rawL; simp only [List.append_assoc]
    have ht : (rawL p o).take k = headL p ++ (sumL o.hs (headL p) ++ (fullD p.data ++ sumL (o.ds && decide (0 < p.data.length)) (fullD p.data)).take (k - (if o.hs then 52 else 48))) := by
      rw [hraw, List.take_append, hat, List.take_of_length_le (by rw [hat]; omega), List.append_assoc]
    have q3 := (parse_head hok hf hl (sumL o.hs (headL p) ++ (fullD p.data ++ sumL (o.ds && decide (0 < p.data.length)) (fullD p.data)).take (k - (if o.hs then 52 else 48)))).2.2
    rw [← ht] at q3
    rw [next_head hok h _ _ (by rw [ht]), if_pos]
    have hlen := rawL_length (o := o) hok.2.2.1
    show ((rawL p o).take k).length < Rd1.all ⟨o, (rawL p o).take k, false⟩
    unfold Rd1.all Rd1.at_
    rw [hln]
    show k < (if o.hs then 52 else 48) + (sizeP ((rawL p o).take k) + padN (sizeP ((rawL p o).take k))) + if o.ds && decide (0 < sizeP ((rawL p o).take k)) then 4 else 0
    rw [q3]
    have : (if o.hs then 52 else 48) = 48 + (if o.hs then 4 else 0) := by cases o.hs <;> rfl
    omega
end
section
open Go.RowKit
set_option linter.unusedVariables false
set_option linter.unusedSimpArgs false
set_option maxRecDepth 20000
/-- Bits that are turned within a part. -/
theorem flipN_mid (xs ys zs : List UInt8) (t a : Nat) (B : BitVec 32) (ha : a = 8 * xs.length) : ∀ k, t + k ≤ 8 * ys.length → flipN (xs ++ (ys ++ zs)) (a + t) B k = xs ++ (flipN ys t B k ++ zs)
  | 0, _ => rfl
  | k + 1, h => by
    have ih := flipN_mid xs ys zs t a B ha k (by omega)
    have hl := flipN_length ys t B k
    have e1 : (a + t + k) / 8 = xs.length + (t + k) / 8 := by omega
    have e2 : (a + t + k) % 8 = (t + k) % 8 := by omega
    have hlt : (t + k) / 8 < (flipN ys t B k).length := by omega
    rw [flipN, flipN, ih, e1, e2]
    split
    · rw [List.set_append_right _ _ (by omega), Nat.add_sub_cancel_left, List.set_append_left _ _ hlt]
      congr 4
      rw [List.getD_eq_getElem?_getD, List.getD_eq_getElem?_getD, List.getElem?_append_right (by omega), Nat.add_sub_cancel_left, List.getElem?_append_left hlt]
    · rfl
/-- A head of which bits are turned. -/
theorem tells_head {p : Pd} (h7 : p.w.length = 7) (t : Nat) (B : BitVec 32) (k : Nat) (h32 : k ≤ 32) (hk : t + k ≤ 8 * 48) (hany : anyN B k = true) (ds : Bool) (most : Int) :
    Rd1.next ⟨⟨true, ds, most⟩, flipN (rawL p ⟨true, ds, most⟩) t B k, false⟩ = (noP, 12, true, ⟨⟨true, ds, most⟩, [], true⟩) := by
  have h48 := headL_length h7
  have hb : ∃ zs, rawL p ⟨true, ds, most⟩ = headL p ++ (crcDigest (crcSum (headL p)) ++ zs) := ⟨_, rfl⟩
  obtain ⟨zs, hb⟩ := hb
  have hf := flipN_mid [] (headL p) (crcDigest (crcSum (headL p)) ++ zs) t 0 B rfl k (by rw [h48]; omega)
  simp only [List.nil_append, Nat.zero_add] at hf
  rw [hb, hf]
  have hfl := flipN_length (headL p) t B k
  have hne := turned_sum (headL p) t B k h32 (by rw [h48]; omega) hany
  have hl4 : (crcDigest (crcSum (headL p))).length = 4 := rfl
  unfold Rd1.next
  have n1 : ¬ (flipN (headL p) t B k ++ (crcDigest (crcSum (headL p)) ++ zs)).length < 52 := by
    simp only [List.length_append, hfl, h48, hl4]; omega
  have n2 : (crcDigest (crcSum ((flipN (headL p) t B k ++ (crcDigest (crcSum (headL p)) ++ zs)).take 48)) == ((flipN (headL p) t B k ++ (crcDigest (crcSum (headL p)) ++ zs)).drop 48).take 4) = false := by
    rw [List.take_left' (by rw [hfl, h48]), List.drop_left' (by rw [hfl, h48]), List.take_left' hl4]
    rw [beq_eq_false_iff_ne]
    intro e
    exact hne (crcDigest_inj e).symm
  simp only [Rd1.at_, Bool.false_eq_true, if_false, if_true, if_neg n1, n2, Bool.true_and, Bool.not_false, Rd1.die]
end
section
open Go.RowKit
set_option linter.unusedVariables false
set_option linter.unusedSimpArgs false
set_option maxRecDepth 20000
set_option maxHeartbeats 4000000
/-- What is agreed on, as a value. -/
def agA (o : Ag) : Value := .agg #[.bool o.hs, .bool o.ds, .int .i64 o.most]
theorem right_any (o : Ag) (w : World) : Calls Try.prog 31 #[agA o] w fun e w' => e = .returned (.bool o.right) ∧ Same w w' := by
  obtain ⟨hs, ds, most⟩ := o
  unfold agA Ag.right
  dsimp only
  by_cases h1 : 48 ≤ most
  · by_cases h2 : most ≤ 65536
    · rw [decide_eq_true ⟨h1, h2⟩]
      go_enter Try.func31, Try.ntmps31
      go_wp2_with fail
      go_ret
      exact ⟨rfl, (Upd.refl _ w).alloc _⟩
    · rw [decide_eq_false (fun h => h2 h.2)]
      have h2 : 65536 < most := by omega
      go_enter Try.func31, Try.ntmps31
      go_wp2_with fail
      go_ret
      exact ⟨rfl, (Upd.refl _ w).alloc _⟩
  · rw [decide_eq_false (fun h => h1 h.1)]
    have h1 : most < 48 := by omega
    go_enter Try.func31, Try.ntmps31
    go_wp2_with fail
    go_ret
    exact ⟨rfl, (Upd.refl _ w).alloc _⟩
theorem rright_any (o : Ag) (w : World) : Calls Try.prog 22 #[agA o] w fun e w' => e = .returned (.bool o.right) ∧ Same w w' := by
  obtain ⟨hs, ds, most⟩ := o
  unfold agA Ag.right
  dsimp only
  by_cases h1 : 48 ≤ most
  · by_cases h2 : most ≤ 65536
    · rw [decide_eq_true ⟨h1, h2⟩]
      go_enter Try.func22, Try.ntmps22
      go_wp2_with fail
      go_ret
      exact ⟨rfl, (Upd.refl _ w).alloc _⟩
    · rw [decide_eq_false (fun h => h2 h.2)]
      have h2 : 65536 < most := by omega
      go_enter Try.func22, Try.ntmps22
      go_wp2_with fail
      go_ret
      exact ⟨rfl, (Upd.refl _ w).alloc _⟩
  · rw [decide_eq_false (fun h => h1 h.1)]
    have h1 : most < 48 := by omega
    go_enter Try.func22, Try.ntmps22
    go_wp2_with fail
    go_ret
    exact ⟨rfl, (Upd.refl _ w).alloc _⟩
/-- Is a number within 0 and a bound? -/
theorem in_any (n hi : Int) (w : World) : Calls Try.prog 50 #[.int .i64 n, .int .i64 hi] w fun e w' => e = .returned (.bool (decide (0 ≤ n ∧ n ≤ hi))) ∧ w = w' := by
  by_cases h1 : 0 ≤ n
  · by_cases h2 : n ≤ hi
    · rw [decide_eq_true ⟨h1, h2⟩]
      go_enter Try.func50, Try.ntmps50
      go_wp2_with fail
      go_ret
      exact ⟨rfl, rfl⟩
    · rw [decide_eq_false (fun h => h2 h.2)]
      have h2 : hi < n := by omega
      go_enter Try.func50, Try.ntmps50
      go_wp2_with fail
      go_ret
      exact ⟨rfl, rfl⟩
  · rw [decide_eq_false (fun h => h1 h.1)]
    have h1 : n < 0 := by omega
    go_enter Try.func50, Try.ntmps50
    go_wp2_with fail
    go_ret
    exact ⟨rfl, rfl⟩
end
section
open Go.RowKit
set_option linter.unusedVariables false
set_option linter.unusedSimpArgs false
set_option maxRecDepth 20000
set_option maxHeartbeats 4000000
def askedB (op : Int) : Bool := decide ((0 ≤ op ∧ op ≤ 6) ∨ op = 16)
def toldB (op : Int) : Bool := decide ((32 ≤ op ∧ op ≤ 38) ∨ op = 49 ∨ op = 50 ∨ op = 63)
theorem two_bools {a b c d : Bool} (h : a = true ↔ b = true) (h' : c = true ↔ d = true) : Ending.returned (.tuple #[.bool a, .bool c]) = Ending.returned (.tuple #[.bool b, .bool d]) := by
  rw [Bool.eq_iff_iff.2 h, Bool.eq_iff_iff.2 h']
theorem rknown_any (op : Int) (w : World) : Calls Try.prog 30 #[.int .i64 op] w fun e w' => e = .returned (.tuple #[.bool (askedB op || toldB op), .bool (askedB op)]) ∧ w = w' := by
  go_enter Try.func30, Try.ntmps30
  go_wp2_with fail
  all_goals go_ret2
  all_goals (refine ⟨two_bools ?_ ?_, rfl⟩ <;> simp [askedB, toldB] <;> omega)
end
section
open Go.RowKit
set_option linter.unusedVariables false
set_option linter.unusedSimpArgs false
set_option maxRecDepth 20000
set_option maxHeartbeats 4000000
theorem Upd.iterAt {S : Nat → Prop} {a b : World} (h : Upd S a b) {k : Nat} (hk : a.heap.size ≤ k) (s : ByteArray) (pos : Nat) : Upd S a (b.iterAt k s pos) :=
  ⟨h.os, h.tape, h.output, by rw [Lib.iterAt_size]; exact h.size, fun j hj hs => (Lib.iterAt_other b k j s pos (by omega)).trans (h.block j hj hs)⟩
theorem Upd.iter {S : Nat → Prop} {a b : World} (h : Upd S a b) (s : ByteArray) (pos : Nat) : Upd S a (b.iter s pos) := h.alloc (.stringIter s pos)
theorem among_any (op : Int) (s : ByteArray) (hs : s.size ≤ 100) (hA : ∀ i (h : i < s.size), (s[i]'h).toNat < 128) (r : Bool)
    (h1 : ∀ i (h : i < s.size), ((s[i]'h).toNat : Int) = op → r = true) (h0 : (∀ i (h : i < s.size), ¬ ((s[i]'h).toNat : Int) = op) → r = false) (w : World) :
    Calls Try.prog 49 #[.int .i64 op, .string s] w fun e w' => e = .returned (.bool r) ∧ Same w w' := by
  have HA := Lib.hid hA
  have H1 := Lib.hid h1
  have H0 := Lib.hid h0
  clear hA h1 h0
  go_enter Try.func49, Try.ntmps49
  go_wp2_with fail
  go_loopw [6] (fun _ wr => ∃ pos : Nat, pos ≤ s.size ∧ wr.heap[w.heap.size]? = some (.stringIter s pos) ∧ Hid (Same w wr ∧ ∀ i (h : i < s.size), i < pos → ¬ ((s[i]'h).toNat : Int) = op)) (fun _ wr => s.size - wr.iterPos w.heap.size)
  case atStart => exact ⟨0, by omega, World.iter_heap w s 0, (Upd.refl _ w).iter s 0, fun i h hi => by omega⟩
  case round =>
    obtain ⟨pos, hpos, hit, hin⟩ := hrel
    have HW := Lib.hid hin.out.1
    have HN := Lib.hid hin.out.2
    clear hin
    by_cases hp : pos < s.size
    · have hlt := HA.out pos hp
      have hnx : ∀ ty, (Instr.next (.pointer (some ⟨w.heap.size, 0, none⟩)) true ty).run Try.prog wr = _ := fun ty => Lib.run_next_any_at wr w.heap.size s pos ty hit hp
      rw [decode_ascii s pos hp hlt] at hnx
      have hit2 := Lib.iterAt_heap wr w.heap.size s pos (pos + 1) hit
      have HS2 : Hid (Same w (wr.iterAt w.heap.size s (pos + 1))) := HW.out.iterAt (Nat.le_refl _) s (pos + 1)
      have HE := Lib.hid (H1.out pos hp)
      have HNE : Hid (¬ ((s[pos]'hp).toNat : Int) = op → ∀ i (h : i < s.size), i < pos + 1 → ¬ ((s[i]'h).toNat : Int) = op) := fun hn i h hi => by
        rcases Nat.lt_or_ge i pos with hl | hl
        · exact HN.out i h hl
        · have : i = pos := by omega
          subst this
          exact hn
      dsimp only at hnx
      generalize (s[pos]'hp).toNat = c at hnx HE HNE hlt
      by_cases hc : (c : Int) = op
      · have hr := HE.out hc
        subst hr
        subst hc
        clear HE HNE HN HW H1 H0
        go_wp2_with fail
        go_ret
        exact ⟨rfl, HS2.out⟩
      · have HQ := Lib.hid (HNE.out hc)
        clear HE HNE HN HW
        go_wp2_with fail
        go_roundw
        case rel => exact ⟨pos + 1, by omega, hit2, HS2.out, HQ.out⟩
        case measure =>
          simp only [World.iterPos, hit2, hit]
          omega
    · have hnx : ∀ ty, (Instr.next (.pointer (some ⟨w.heap.size, 0, none⟩)) true ty).run Try.prog wr = _ := fun ty => Lib.run_next_end_at wr w.heap.size s pos ty hit hp
      have hr := H0.out (fun i h => HN.out i h (by omega))
      subst hr
      clear HN H0 H1
      go_wp2_with fail
      go_ret
      exact ⟨rfl, HW.out⟩
def askS : ByteArray := ⟨#[0, 1, 2, 3, 4, 5, 6, 16]⟩
theorem ask_low : ∀ i (h : i < askS.size), (askS[i]'h).toNat < 128 := by decide
theorem ask_in : ∀ i (h : i < askS.size), askedB ((askS[i]'h).toNat : Int) = true := by decide
theorem ask_out {op : Int} (h : ∀ i (h : i < askS.size), ¬ ((askS[i]'h).toNat : Int) = op) : askedB op = false := by
  have a0 : ¬ (0 : Int) = op := h 0 (by decide)
  have a1 : ¬ (1 : Int) = op := h 1 (by decide)
  have a2 : ¬ (2 : Int) = op := h 2 (by decide)
  have a3 : ¬ (3 : Int) = op := h 3 (by decide)
  have a4 : ¬ (4 : Int) = op := h 4 (by decide)
  have a5 : ¬ (5 : Int) = op := h 5 (by decide)
  have a6 : ¬ (6 : Int) = op := h 6 (by decide)
  have a7 : ¬ (16 : Int) = op := h 7 (by decide)
  exact decide_eq_false (by omega)
def toldS : ByteArray := ⟨#[32, 33, 34, 35, 36, 37, 38, 49, 50, 63]⟩
theorem told_low : ∀ i (h : i < toldS.size), (toldS[i]'h).toNat < 128 := by decide
theorem told_in : ∀ i (h : i < toldS.size), toldB ((toldS[i]'h).toNat : Int) = true := by decide
theorem told_out {op : Int} (h : ∀ i (h : i < toldS.size), ¬ ((toldS[i]'h).toNat : Int) = op) : toldB op = false := by
  have a0 : ¬ (32 : Int) = op := h 0 (by decide)
  have a1 : ¬ (33 : Int) = op := h 1 (by decide)
  have a2 : ¬ (34 : Int) = op := h 2 (by decide)
  have a3 : ¬ (35 : Int) = op := h 3 (by decide)
  have a4 : ¬ (36 : Int) = op := h 4 (by decide)
  have a5 : ¬ (37 : Int) = op := h 5 (by decide)
  have a6 : ¬ (38 : Int) = op := h 6 (by decide)
  have a7 : ¬ (49 : Int) = op := h 7 (by decide)
  have a8 : ¬ (50 : Int) = op := h 8 (by decide)
  have a9 : ¬ (63 : Int) = op := h 9 (by decide)
  exact decide_eq_false (by omega)
theorem known_op (op : Int) (w : World) : Calls Try.prog 29 #[.int .i64 op] w fun e w' => e = .returned (.tuple #[.bool (askedB op || toldB op), .bool (askedB op)]) ∧ Same w w' := by
  have HA := Lib.hid (fun W => among_any op askS (by decide) ask_low (askedB op) (fun i h e => by rw [← e]; exact ask_in i h) ask_out W)
  have HT := Lib.hid (fun W => among_any op toldS (by decide) told_low (toldB op) (fun i h e => by rw [← e]; exact told_in i h) told_out W)
  generalize askedB op = A at HA ⊢
  generalize toldB op = T at HT ⊢
  go_enter Try.func29, Try.ntmps29
  go_wp2_with fail
  refine (HA.out _).mono ?_
  rintro e w1 ⟨rfl, hs1⟩
  have HS1 := Lib.hid hs1
  clear hs1
  cases A
  · go_wp2_with fail
    refine (HT.out _).mono ?_
    rintro e w2 ⟨rfl, hs2⟩
    have HS2 := Lib.hid (Same.trans HS1.out hs2)
    clear hs2
    go_wp2_with fail
    go_ret2
    exact ⟨rfl, HS2.out⟩
  · go_wp2_with fail
    go_ret2
    exact ⟨rfl, HS1.out⟩
end
section
open Go.RowKit
set_option linter.unusedVariables false
set_option linter.unusedSimpArgs false
set_option maxRecDepth 20000
set_option maxHeartbeats 4000000
def wd (p : Pd) (i : Nat) : Int := p.w.getD i 0
/-- A letter as a value; v: its data. -/
def pdA (p : Pd) (v : Value) : Value := .agg #[.int .i64 p.op, .bool p.now, .int .i64 p.flags, .int .i64 p.b2, .int .i64 p.b3, .int .u64 p.lun, .int .u32 p.task, .int .u32 (wd p 0), .int .u32 (wd p 1), .int .u32 (wd p 2), .int .u32 (wd p 3), .int .u32 (wd p 4), .int .u32 (wd p 5), .int .u32 (wd p 6), v]
theorem fits_any (p : Pd) (v : Value) (w : World) : Calls Try.prog 32 #[pdA p v] w fun e w' => e = .returned (.bool p.fits) ∧ Same w w' := by
  have hf : p.fits = (decide (0 ≤ p.op ∧ p.op ≤ 63) && (decide (0 ≤ p.flags ∧ p.flags ≤ 255) && (decide (0 ≤ p.b2 ∧ p.b2 ≤ 255) && decide (0 ≤ p.b3 ∧ p.b3 ≤ 255)))) := by
    unfold Pd.fits; simp only [Bool.decide_and]
  rw [hf]
  clear hf
  have H0 := Lib.hid (fun W => in_any p.op 63 W)
  have H1 := Lib.hid (fun W => in_any p.flags 255 W)
  have H2 := Lib.hid (fun W => in_any p.b2 255 W)
  have H3 := Lib.hid (fun W => in_any p.b3 255 W)
  unfold pdA
  generalize decide (0 ≤ p.op ∧ p.op ≤ 63) = B0 at H0 ⊢
  generalize decide (0 ≤ p.flags ∧ p.flags ≤ 255) = B1 at H1 ⊢
  generalize decide (0 ≤ p.b2 ∧ p.b2 ≤ 255) = B2 at H2 ⊢
  generalize decide (0 ≤ p.b3 ∧ p.b3 ≤ 255) = B3 at H3 ⊢
  go_enter Try.func32, Try.ntmps32
  go_wp2_with fail
  refine (H0.out _).mono ?_
  rintro e w1 ⟨rfl, rfl⟩
  cases B0
  · go_wp2_with fail
    go_ret
    exact ⟨rfl, (Upd.refl _ w).alloc _⟩
  · go_wp2_with fail
    refine (H1.out _).mono ?_
    rintro e w2 ⟨rfl, rfl⟩
    cases B1
    · go_wp2_with fail
      go_ret
      exact ⟨rfl, (Upd.refl _ w).alloc _⟩
    · go_wp2_with fail
      refine (H2.out _).mono ?_
      rintro e w3 ⟨rfl, rfl⟩
      cases B2
      · go_wp2_with fail
        go_ret
        exact ⟨rfl, (Upd.refl _ w).alloc _⟩
      · go_wp2_with fail
        refine (H3.out _).mono ?_
        rintro e w4 ⟨rfl, rfl⟩
        cases B3
        · go_wp2_with fail
          go_ret
          exact ⟨rfl, (Upd.refl _ w).alloc _⟩
        · go_wp2_with fail
          go_ret
          exact ⟨rfl, (Upd.refl _ w).alloc _⟩
end
section
open Go.RowKit
set_option linter.unusedVariables false
set_option linter.unusedSimpArgs false
set_option maxRecDepth 20000
set_option maxHeartbeats 4000000
/-- A writer at block p holds bs; since w nothing of what was there has turned, nor anything below B. -/
def WP (w wr : World) (B p : Nat) (bs : List UInt8) : Prop := (∃ v, WObj B wr p v bs 0) ∧ Same w wr ∧ w.heap.size ≤ B ∧ B ≤ wr.heap.size
/-- What a step leaves of what lies below B. -/
def LowK (B : Nat) (wr w' : World) : Prop := Upd (fun k => B ≤ k) wr w'
theorem wn_step {w wr : World} {B p : Nat} {bs : List UInt8} (h : WP w wr B p bs) (size : Nat) (n : Int) (hl : bs.length ≤ 100000) (h1 : 1 ≤ size) (h8 : size ≤ 8) (hn : -9223372036854775808 ≤ n ∧ n ≤ 9223372036854775807) (hfit : wrE 0 size n = 0) :
    Calls Try.prog 52 #[.pointer (some ⟨p, 0, none⟩), .int .i64 (size : Int), .int .i64 n] wr fun r w' => r = .returned (.tuple #[]) ∧ WP w w' B p (bs ++ numB n size) ∧ LowK B wr w' := by
  obtain ⟨⟨v, ho⟩, hs, hw, hB⟩ := h
  refine (wnum_any p v bs 0 (size : Int) n wr ho hB (by omega) hn.1 hn.2).mono ?_
  rintro r w' ⟨rfl, v', ho', hu, hroom⟩
  rw [hfit] at ho'
  have hL : wrL bs 0 (size : Int) n = bs ++ numB n size := by unfold wrL; rw [hfit, if_pos rfl, Int.toNat_natCast]
  rw [hL] at ho'
  refine ⟨rfl, ⟨⟨v', ho'⟩, Same.into hs hu (fun k hk => Nat.le_trans hw (ho.foot k hk).1), hw, Nat.le_trans hB hu.size⟩, ?_⟩
  exact hu.mono (fun k _ hk => (ho.foot k hk).1)
theorem rwn_step {w wr : World} {B p : Nat} {bs : List UInt8} (h : WP w wr B p bs) (size : Nat) (n : Int) (hl : bs.length ≤ 100000) (h1 : 1 ≤ size) (h8 : size ≤ 8) (hn : -9223372036854775808 ≤ n ∧ n ≤ 9223372036854775807) (hfit : wrE 0 size n = 0) :
    Calls Try.prog 42 #[.pointer (some ⟨p, 0, none⟩), .int .i64 (size : Int), .int .i64 n] wr fun r w' => r = .returned (.tuple #[]) ∧ WP w w' B p (bs ++ numB n size) ∧ LowK B wr w' := by
  obtain ⟨⟨v, ho⟩, hs, hw, hB⟩ := h
  refine (rwnum_any p v bs 0 (size : Int) n wr ho hB (by omega) hn.1 hn.2).mono ?_
  rintro r w' ⟨rfl, v', ho', hu, hroom⟩
  rw [hfit] at ho'
  have hL : wrL bs 0 (size : Int) n = bs ++ numB n size := by unfold wrL; rw [hfit, if_pos rfl, Int.toNat_natCast]
  rw [hL] at ho'
  refine ⟨rfl, ⟨⟨v', ho'⟩, Same.into hs hu (fun k hk => Nat.le_trans hw (ho.foot k hk).1), hw, Nat.le_trans hB hu.size⟩, ?_⟩
  exact hu.mono (fun k _ hk => (ho.foot k hk).1)
/-- A letter's cells. -/
def pdC (p : Pd) (v : Value) : List Value := [.int .i64 p.op, .bool p.now, .int .i64 p.flags, .int .i64 p.b2, .int .i64 p.b3, .int .u64 p.lun, .int .u32 p.task, .int .u32 (wd p 0), .int .u32 (wd p 1), .int .u32 (wd p 2), .int .u32 (wd p 3), .int .u32 (wd p 4), .int .u32 (wd p 5), .int .u32 (wd p 6), v]
def BoxAt (w : World) (b : Nat) (p : Pd) (v : Value) : Prop := ∀ j u, (pdC p v)[j]? = some u → w.cell? ⟨b, j, none⟩ = some u
theorem BoxAt.low {B : Nat} {w w' : World} {b : Nat} {p : Pd} {v : Value} (h : BoxAt w b p v) (hb : b < B) (hu : LowK B w w') : BoxAt w' b p v := fun j u hj => hu.cell (h j u hj) (show ¬ B ≤ b by omega)
theorem BoxAt.same {w w' : World} {b : Nat} {p : Pd} {v : Value} (h : BoxAt w b p v) (hs : Same w w') : BoxAt w' b p v := fun j u hj => hs.cell (h j u hj) id
theorem BoxAt.new (w : World) (p : Pd) (v : Value) (t : TypeId) : BoxAt (w.alloc (.cells (pdC p v).toArray t)) w.heap.size p v := by
  intro j u hj
  rw [cell_of_row _ _ j _ _ (0, 0) (heap_alloc_new w _)]
  simpa using hj
theorem wrE_small {size : Nat} {n : Int} (h1 : 1 ≤ size) (h8 : size ≤ 8) (h : size = 8 ∨ (0 ≤ n ∧ n < 256 ^ size)) : wrE 0 size n = 0 := by
  unfold wrE
  rw [if_neg (by decide), if_neg (by omega), if_neg]
  rintro ⟨hs, hn⟩
  have e : (2 : Int) ^ (8 * (size : Int)).toNat = 256 ^ size := by
    rw [show (8 * (size : Int)).toNat = 8 * size by omega, Int.pow_mul]; rfl
  have hp : (0 : Int) ≤ 2 ^ (8 * (size : Int) - 1).toNat := Int.pow_nonneg (by decide)
  rcases h with h | h
  · omega
  · rw [e] at hn
    rcases hn with hn | hn <;> omega
theorem or64 (n : Int) (h : 0 ≤ n ∧ n ≤ 63) : bits .or .i64 n 64 = n + 64 := by
  have key : ∀ k : Fin 64, bits .or .i64 ((k.val : Nat) : Int) 64 = ((k.val : Nat) : Int) + 64 := by decide +kernel
  have := key ⟨n.toNat, by omega⟩
  simpa [Int.toNat_of_nonneg h.1] using this
theorem wn1 {w wr : World} {B p : Nat} {bs : List UInt8} (h : WP w wr B p bs) (n : Int) (hl : bs.length ≤ 100000) (hn : 0 ≤ n ∧ n ≤ 255) :
    Calls Try.prog 52 #[.pointer (some ⟨p, 0, none⟩), .int .i64 1, .int .i64 n] wr fun r w' => r = .returned (.tuple #[]) ∧ WP w w' B p (bs ++ numB n 1) ∧ LowK B wr w' :=
  wn_step h 1 n hl (by decide) (by decide) (by omega) (wrE_small (by decide) (by decide) (.inr ⟨hn.1, Int.lt_of_le_of_lt hn.2 (by decide)⟩))
theorem wn4 {w wr : World} {B p : Nat} {bs : List UInt8} (h : WP w wr B p bs) (n : Int) (hl : bs.length ≤ 100000) (hn : 0 ≤ n ∧ n ≤ 4294967295) :
    Calls Try.prog 52 #[.pointer (some ⟨p, 0, none⟩), .int .i64 4, .int .i64 n] wr fun r w' => r = .returned (.tuple #[]) ∧ WP w w' B p (bs ++ numB n 4) ∧ LowK B wr w' :=
  wn_step h 4 n hl (by decide) (by decide) (by omega) (wrE_small (by decide) (by decide) (.inr ⟨hn.1, Int.lt_of_le_of_lt hn.2 (by decide)⟩))
theorem wn8 {w wr : World} {B p : Nat} {bs : List UInt8} (h : WP w wr B p bs) (n : Int) (hl : bs.length ≤ 100000) (hn : -9223372036854775808 ≤ n ∧ n ≤ 9223372036854775807) :
    Calls Try.prog 52 #[.pointer (some ⟨p, 0, none⟩), .int .i64 8, .int .i64 n] wr fun r w' => r = .returned (.tuple #[]) ∧ WP w w' B p (bs ++ numB n 8) ∧ LowK B wr w' :=
  wn_step h 8 n hl (by decide) (by decide) (by omega) (wrE_small (by decide) (by decide) (.inl rfl))
theorem rwn1 {w wr : World} {B p : Nat} {bs : List UInt8} (h : WP w wr B p bs) (n : Int) (hl : bs.length ≤ 100000) (hn : 0 ≤ n ∧ n ≤ 255) :
    Calls Try.prog 42 #[.pointer (some ⟨p, 0, none⟩), .int .i64 1, .int .i64 n] wr fun r w' => r = .returned (.tuple #[]) ∧ WP w w' B p (bs ++ numB n 1) ∧ LowK B wr w' :=
  rwn_step h 1 n hl (by decide) (by decide) (by omega) (wrE_small (by decide) (by decide) (.inr ⟨hn.1, Int.lt_of_le_of_lt hn.2 (by decide)⟩))
theorem rwn4 {w wr : World} {B p : Nat} {bs : List UInt8} (h : WP w wr B p bs) (n : Int) (hl : bs.length ≤ 100000) (hn : 0 ≤ n ∧ n ≤ 4294967295) :
    Calls Try.prog 42 #[.pointer (some ⟨p, 0, none⟩), .int .i64 4, .int .i64 n] wr fun r w' => r = .returned (.tuple #[]) ∧ WP w w' B p (bs ++ numB n 4) ∧ LowK B wr w' :=
  rwn_step h 4 n hl (by decide) (by decide) (by omega) (wrE_small (by decide) (by decide) (.inr ⟨hn.1, Int.lt_of_le_of_lt hn.2 (by decide)⟩))
theorem rwn8 {w wr : World} {B p : Nat} {bs : List UInt8} (h : WP w wr B p bs) (n : Int) (hl : bs.length ≤ 100000) (hn : -9223372036854775808 ≤ n ∧ n ≤ 9223372036854775807) :
    Calls Try.prog 42 #[.pointer (some ⟨p, 0, none⟩), .int .i64 8, .int .i64 n] wr fun r w' => r = .returned (.tuple #[]) ∧ WP w w' B p (bs ++ numB n 8) ∧ LowK B wr w' :=
  rwn_step h 8 n hl (by decide) (by decide) (by omega) (wrE_small (by decide) (by decide) (.inl rfl))
def wds (p : Pd) : List Int := [wd p 0, wd p 1, wd p 2, wd p 3, wd p 4, wd p 5, wd p 6]
def hd4 (p : Pd) : List Int := [firstP p, p.flags, p.b2, p.b3]
theorem wd_range {p : Pd} (h7 : p.w.length = 7) (hw : ∀ n ∈ p.w, 0 ≤ n ∧ n ≤ 4294967295) {i : Nat} (hi : i < 7) : 0 ≤ wd p i ∧ wd p i ≤ 4294967295 := by
  unfold wd
  rw [List.getD_eq_getElem?_getD, List.getElem?_eq_getElem (by omega)]
  exact hw _ (List.getElem_mem _)
theorem wds_eq {p : Pd} (h7 : p.w.length = 7) : wds p = p.w := by
  obtain ⟨op, now, fl, b2, b3, lun, task, w, d⟩ := p
  match w, h7 with
  | [a, b, c, d, e, f, g], _ => rfl
theorem numB_wrap (n : Int) : numB (wrap64 n) 8 = numB n 8 := by
  rw [← numB_mod (wrap64 n) 8 (by decide), ← numB_mod n 8 (by decide)]
  congr 1
  unfold wrap64
  omega
theorem head_bytes (p : Pd) (h7 : p.w.length = 7) : (((hd4 p).take 4).flatMap fun n => numB n 1) ++ numB (p.data.length : Int) 4 ++ numB (wrap64 p.lun) 8 ++ numB p.task 4 ++ ((wds p).take 7).flatMap (fun n => numB n 4) = headL p := by
  have e : (wds p).take 7 = p.w := by rw [← wds_eq h7]; rfl
  rw [e, numB_wrap]
  unfold headL hd4
  simp
theorem ones_length (l : List Int) : (l.flatMap fun n => numB n 1).length = l.length := by
  induction l with
  | nil => rfl
  | cons n l ih => rw [List.flatMap_cons, List.length_append, ih, numB_length, List.length_cons]; omega
end
section
open Go.RowKit
set_option linter.unusedVariables false
set_option linter.unusedSimpArgs false
set_option maxRecDepth 20000
set_option maxHeartbeats 4000000
theorem opts_any (o : Ag) (w : World) : Calls Try.prog 10 #[agA o] w fun e w' => e = .returned (agA o) ∧ Same w w' := by
  obtain ⟨hs, ds, most⟩ := o
  unfold agA
  dsimp only
  go_enter Try.func10, Try.ntmps10
  go_wp2_with fail
  refine bodyPost_ret (v := .agg #[.bool hs, .bool ds, .int .i64 most]) (by simp [results, Try.results10, go_sem, asAddr, Result.andThen]) rfl ?_
  exact ⟨rfl, ((((Upd.refl _ w).alloc _).alloc _))⟩
/-- A reader's block. -/
def RdC (o : Ag) (v : Value) (dead : Bool) : List Value := [.bool o.hs, .bool o.ds, .int .i64 o.most, v, .bool dead]
theorem new_bad (o : Ag) (h : o.right = false) (w : World) : Calls Try.prog 9 #[agA o] w fun e w' => e = .returned (.tuple #[.pointer none, .int .i64 1]) ∧ Same w w' := by
  have HR := Lib.hid (fun W => right_any o W)
  rw [h] at HR
  unfold agA at HR ⊢
  go_enter Try.func9, Try.ntmps9
  go_wp2_with fail
  refine (HR.out _).mono ?_
  rintro e w1 ⟨rfl, hs⟩
  go_wp2_with fail
  go_ret2
  exact ⟨rfl, Same.trans ((Upd.refl _ w).alloc _) hs⟩
def RdAt (w : World) (b : Nat) (o : Ag) (v : Value) (dead : Bool) : Prop := ∀ j u, (RdC o v dead)[j]? = some u → w.cell? ⟨b, j, none⟩ = some u
theorem new_good (o : Ag) (h : o.right = true) (w : World) : Calls Try.prog 9 #[agA o] w fun e w' => ∃ b, e = .returned (.tuple #[.pointer (some ⟨b, 0, none⟩), .int .i64 0]) ∧ w.heap.size ≤ b ∧ b < w'.heap.size ∧ RdAt w' b o (.slice none 0 0) false ∧ (∀ j, w'.frozen? ⟨b, j, none⟩ = false) ∧ Same w w' := by
  have HR := Lib.hid (fun W => right_any o W)
  rw [h] at HR
  obtain ⟨hs', ds', most⟩ := o
  unfold agA at HR ⊢
  dsimp only at HR ⊢
  go_enter Try.func9, Try.ntmps9
  go_wp2_with fail
  refine (HR.out _).mono ?_
  rintro e w1 ⟨rfl, hs⟩
  have hbx : ∀ j u, (#[Value.bool hs', .bool ds', .int .i64 most] : Array Value)[j]? = some u → w1.cell? ⟨w.heap.size, j, none⟩ = some u := fun j u hj => hs.cell (by rw [cell_of_row _ _ j _ _ (0, 0) (heap_alloc_new w _)]; exact hj) id
  have c0 := hbx 0 _ rfl
  have c1 := hbx 1 _ rfl
  have c2 := hbx 2 _ rfl
  have hz : w.heap.size ≤ w1.heap.size := Nat.le_trans (by simp) hs.size
  have HS := Lib.hid (Same.trans ((Upd.refl (fun _ => False) w).alloc _) hs)
  clear hbx hs
  go_wp2_with fail
  go_ret2
  refine ⟨_, rfl, hz, by simp, fun j u hj => ?_, fun j => ?_, HS.out.alloc _⟩
  · rw [cell_of_row _ _ j _ _ (0, 0) (heap_alloc_new w1 _)]
    simpa [RdC] using hj
  · unfold World.frozen?
    rw [heap_alloc_new w1 _]
    simp
theorem left_any (b : Nat) (o : Ag) (A : Option Addr) (n cap : Nat) (dead : Bool) (w : World) (h : RdAt w b o (.slice A n cap) dead) : Calls Try.prog 20 #[.pointer (some ⟨b, 0, none⟩)] w fun e w' => e = .returned (.int .i64 (n : Int)) ∧ w = w' := by
  have c3 := h 3 _ rfl
  clear h
  go_enter Try.func20, Try.ntmps20
  go_wp2_with fail
  go_ret
  exact ⟨rfl, rfl⟩
theorem dead_any (b : Nat) (o : Ag) (v : Value) (dead : Bool) (w : World) (h : RdAt w b o v dead) : Calls Try.prog 21 #[.pointer (some ⟨b, 0, none⟩)] w fun e w' => e = .returned (.bool dead) ∧ w = w' := by
  have c4 := h 4 _ rfl
  clear h
  go_enter Try.func21, Try.ntmps21
  go_wp2_with fail
  go_ret
  exact ⟨rfl, rfl⟩
theorem state_any (b : Nat) (o : Ag) (v : Value) (dead : Bool) (w : World) (h : RdAt w b o v dead) : Calls Try.prog 37 #[.pointer (some ⟨b, 0, none⟩)] w fun e w' => e = .returned (.int .i64 (if dead then 21 else 0)) ∧ w = w' := by
  have c4 := h 4 _ rfl
  clear h
  cases dead
  · go_enter Try.func37, Try.ntmps37
    go_wp2_with fail
    go_ret
    exact ⟨rfl, rfl⟩
  · go_enter Try.func37, Try.ntmps37
    go_wp2_with fail
    go_ret
    exact ⟨rfl, rfl⟩
theorem state_nil (w : World) : Calls Try.prog 37 #[.pointer none] w fun e w' => e = .returned (.int .i64 2) ∧ w = w' := by
  go_enter Try.func37, Try.ntmps37
  go_wp2_with fail
  go_ret
  exact ⟨rfl, rfl⟩
end
section
open Go.RowKit
set_option linter.unusedVariables false
set_option linter.unusedSimpArgs false
set_option maxRecDepth 20000
set_option maxHeartbeats 4000000
theorem taken_any (p : Pd) (A : Option Addr) (n cap : Nat) (w : World) : Calls Try.prog 18 #[pdA p (.slice A n cap)] w fun e w' => e = .returned (pdA p (.slice A n cap)) ∧ Same w w' := by
  have hbd : ∀ W, (Instr.build 42 #[(0, .int .i64 p.op), (1, .bool p.now), (2, .int .i64 p.flags), (3, .int .i64 p.b2), (4, .int .i64 p.b3), (5, .int .u64 p.lun), (6, .int .u32 p.task), (7, .agg #[.int .u32 (wd p 0), .int .u32 (wd p 1), .int .u32 (wd p 2), .int .u32 (wd p 3), .int .u32 (wd p 4), .int .u32 (wd p 5), .int .u32 (wd p 6)]), (8, .slice A n cap)]).run Try.prog W = .ok (.agg #[.int .i64 p.op, .bool p.now, .int .i64 p.flags, .int .i64 p.b2, .int .i64 p.b3, .int .u64 p.lun, .int .u32 p.task, .int .u32 (wd p 0), .int .u32 (wd p 1), .int .u32 (wd p 2), .int .u32 (wd p 3), .int .u32 (wd p 4), .int .u32 (wd p 5), .int .u32 (wd p 6), .slice A n cap]) W := fun W => run_build W _ _ _ (by kernel_rfl)
  unfold pdA
  go_enter Try.func18, Try.ntmps18
  go_wp2_with fail
  refine bodyPost_ret (v := .agg #[.int .i64 p.op, .bool p.now, .int .i64 p.flags, .int .i64 p.b2, .int .i64 p.b3, .int .u64 p.lun, .int .u32 p.task, .int .u32 (wd p 0), .int .u32 (wd p 1), .int .u32 (wd p 2), .int .u32 (wd p 3), .int .u32 (wd p 4), .int .u32 (wd p 5), .int .u32 (wd p 6), .slice A n cap]) (by simp [results, Try.results18, go_sem, asAddr, Result.andThen]) rfl ?_
  exact ⟨rfl, ((((Upd.refl _ w).alloc _).alloc _))⟩
end
end Go.Proofs.Ytfafepmghcobdaa
