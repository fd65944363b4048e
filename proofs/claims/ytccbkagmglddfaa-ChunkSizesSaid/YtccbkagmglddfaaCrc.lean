/- The plain law of CRC-32C: a bit's step is linear and loses nothing; sums of pieces, of lists added bit by bit, of bytes with their digest behind them, and of bytes of which bits within 32 in a row are turned. Plain Lean: no program in sight. -/
import Derived.KernelRfl
namespace Go.Proofs.Ytccbkagmglddfaa
def crcL (r : BitVec 32) : BitVec 32 := (r >>> 1) ^^^ (if r.getLsbD 0 then 0x82f63b78#32 else 0#32)

theorem crcL_xor (a b : BitVec 32) : crcL (a ^^^ b) = crcL a ^^^ crcL b := by
  unfold crcL
  rw [BitVec.getLsbD_xor, BitVec.ushiftRight_xor_distrib]
  cases a.getLsbD 0 <;> cases b.getLsbD 0 <;> simp
  all_goals first | ac_rfl | (rw [show ∀ x y p : BitVec 32, x ^^^ y = x ^^^ p ^^^ (y ^^^ p) from fun x y p => by rw [BitVec.xor_comm y p, ← BitVec.xor_assoc, BitVec.xor_assoc x p p]; simp])

theorem crcL_zero : crcL 0#32 = 0#32 := by decide

theorem crcL_eq_zero (r : BitVec 32) (h : crcL r = 0#32) : r = 0#32 := by
  have h31 : r.getLsbD 0 = false := by
    have h' := congrArg (fun x => x.getLsbD 31) h
    unfold crcL at h'
    cases hr : r.getLsbD 0 <;> simp [hr] at h' ⊢
  unfold crcL at h
  rw [h31] at h
  simp at h
  apply BitVec.eq_of_getLsbD_eq
  intro i hi
  cases i with
  | zero => simpa using h31
  | succ i =>
    have := congrArg (fun x => x.getLsbD i) h
    simpa [Nat.add_comm] using this

def crcN : Nat → BitVec 32 → BitVec 32
  | 0, r => r
  | n + 1, r => crcN n (crcL r)

theorem crcN_succ (n : Nat) (r : BitVec 32) : crcN (n + 1) r = crcL (crcN n r) := by
  induction n generalizing r with
  | zero => rfl
  | succ n ih => rw [crcN, ih]; rfl
theorem crcN_add (m n : Nat) (r : BitVec 32) : crcN (m + n) r = crcN n (crcN m r) := by
  induction m generalizing r with
  | zero => simp [crcN]
  | succ m ih => rw [Nat.succ_add, crcN, ih]; rfl
theorem crcN_xor (n : Nat) (a b : BitVec 32) : crcN n (a ^^^ b) = crcN n a ^^^ crcN n b := by
  induction n generalizing a b with
  | zero => rfl
  | succ n ih => rw [crcN, crcL_xor, ih]; rfl
theorem crcN_zero (n : Nat) : crcN n 0#32 = 0#32 := by
  induction n with
  | zero => rfl
  | succ n ih => rw [crcN, crcL_zero, ih]
theorem crcN_eq_zero (n : Nat) (r : BitVec 32) (h : crcN n r = 0#32) : r = 0#32 := by
  induction n generalizing r with
  | zero => exact h
  | succ n ih => exact crcL_eq_zero r (ih _ h)

/-- A byte into the register. -/
def crcB (r : BitVec 32) (b : UInt8) : BitVec 32 := crcN 8 (r ^^^ b.toBitVec.setWidth 32)
def crcF (r : BitVec 32) (bs : List UInt8) : BitVec 32 := bs.foldl crcB r
def crcMore (s : BitVec 32) (bs : List UInt8) : BitVec 32 := ~~~ (crcF (~~~ s) bs)
def crcSum (bs : List UInt8) : BitVec 32 := crcMore 0#32 bs

theorem crcF_nil (r : BitVec 32) : crcF r [] = r := rfl
theorem crcF_cons (r : BitVec 32) (b : UInt8) (bs : List UInt8) : crcF r (b :: bs) = crcF (crcB r b) bs := rfl
theorem crcF_append (r : BitVec 32) (xs ys : List UInt8) : crcF r (xs ++ ys) = crcF (crcF r xs) ys := List.foldl_append
theorem crcMore_append (s : BitVec 32) (xs ys : List UInt8) : crcMore s (xs ++ ys) = crcMore (crcMore s xs) ys := by
  unfold crcMore
  rw [crcF_append, BitVec.not_not]

/-- The register's part goes through as if no byte were there. -/
theorem crcF_split (r : BitVec 32) (bs : List UInt8) : crcF r bs = crcN (8 * bs.length) r ^^^ crcF 0#32 bs := by
  induction bs generalizing r with
  | nil => simp [crcF, crcN]
  | cons b bs ih =>
    rw [crcF_cons, crcF_cons, ih, ih (crcB 0#32 b)]
    have h : crcN (8 * (b :: bs).length) r = crcN (8 * bs.length) (crcN 8 r) := by
      rw [List.length_cons, show 8 * (bs.length + 1) = 8 + 8 * bs.length by omega, crcN_add]
    rw [h]
    unfold crcB
    rw [crcN_xor 8, crcN_xor, crcN_xor 8, crcN_xor (8 * bs.length), crcN_zero, crcN_zero]
    simp [BitVec.xor_assoc]

theorem not_eq_xor (r : BitVec 32) : ~~~ r = r ^^^ ~~~ 0#32 := by
  apply BitVec.eq_of_getLsbD_eq
  intro i hi
  rw [BitVec.getLsbD_xor, BitVec.getLsbD_not, BitVec.getLsbD_not]
  simp [hi]

theorem crc_join (xs ys : List UInt8) : crcN (8 * ys.length) (crcSum xs) ^^^ crcSum ys = crcSum (xs ++ ys) := by
  unfold crcSum crcMore
  rw [crcF_append, crcF_split (crcF _ xs) ys, crcF_split (~~~ 0#32) ys]
  generalize crcF (~~~ 0#32) xs = rA
  generalize crcF 0#32 ys = fB
  rw [show ~~~ rA = rA ^^^ ~~~ 0#32 from not_eq_xor rA, crcN_xor]
  generalize crcN (8 * ys.length) rA = x
  generalize crcN (8 * ys.length) (~~~ 0#32) = y
  rw [not_eq_xor (y ^^^ fB), not_eq_xor (x ^^^ fB)]
  generalize ~~~ 0#32 = o
  rw [BitVec.xor_assoc x y, BitVec.xor_assoc y fB o, ← BitVec.xor_assoc y y, BitVec.xor_self, BitVec.zero_xor, BitVec.xor_assoc]

theorem crcB_xor3 (r s t : BitVec 32) (a b c : UInt8) : crcB (r ^^^ s ^^^ t) (a ^^^ b ^^^ c) = crcB r a ^^^ crcB s b ^^^ crcB t c := by
  unfold crcB
  rw [← crcN_xor, ← crcN_xor]
  congr 1
  apply BitVec.eq_of_getLsbD_eq
  intro i hi
  simp only [UInt8.toBitVec_xor, BitVec.getLsbD_xor, BitVec.getLsbD_setWidth]
  simp only [hi, decide_true, Bool.true_and]
  generalize r.getLsbD i = x1
  generalize s.getLsbD i = x2
  generalize t.getLsbD i = x3
  generalize a.toBitVec.getLsbD i = y1
  generalize b.toBitVec.getLsbD i = y2
  generalize c.toBitVec.getLsbD i = y3
  revert x1 x2 x3 y1 y2 y3
  decide
def xor3 : List UInt8 → List UInt8 → List UInt8 → List UInt8
  | a :: as, b :: bs, c :: cs => (a ^^^ b ^^^ c) :: xor3 as bs cs
  | _, _, _ => []
theorem crcF_xor3 (as bs cs : List UInt8) (h1 : as.length = bs.length) (h2 : as.length = cs.length) (r s t : BitVec 32) :
    crcF (r ^^^ s ^^^ t) (xor3 as bs cs) = crcF r as ^^^ crcF s bs ^^^ crcF t cs := by
  induction as generalizing bs cs r s t with
  | nil =>
    cases bs with
    | nil => cases cs with
      | nil => rfl
      | cons => simp at h2
    | cons => simp at h1
  | cons a as ih =>
    cases bs with
    | nil => simp at h1
    | cons b bs =>
      cases cs with
      | nil => simp at h2
      | cons c cs =>
        rw [xor3, crcF_cons, crcF_cons, crcF_cons, crcF_cons, crcB_xor3]
        exact ih bs cs (by simpa using h1) (by simpa using h2) _ _ _
theorem crcSum_xor3 (as bs cs : List UInt8) (h1 : as.length = bs.length) (h2 : as.length = cs.length) :
    crcSum (xor3 as bs cs) = crcSum as ^^^ crcSum bs ^^^ crcSum cs := by
  unfold crcSum crcMore
  have h := crcF_xor3 as bs cs h1 h2 (~~~ 0#32) (~~~ 0#32) (~~~ 0#32)
  rw [BitVec.xor_self, BitVec.zero_xor] at h
  rw [h, not_eq_xor (_ ^^^ _), not_eq_xor (crcF _ as), not_eq_xor (crcF _ bs), not_eq_xor (crcF _ cs)]
  generalize crcF (~~~ 0#32) as = x
  generalize crcF (~~~ 0#32) bs = y
  generalize crcF (~~~ 0#32) cs = z
  generalize ~~~ 0#32 = o
  apply BitVec.eq_of_getLsbD_eq
  intro i hi
  simp only [BitVec.getLsbD_xor]
  generalize x.getLsbD i = x1
  generalize y.getLsbD i = x2
  generalize z.getLsbD i = x3
  generalize o.getLsbD i = y1
  revert x1 x2 x3 y1
  decide

/-- The four bytes of a sum. -/
def crcDigest (s : BitVec 32) : List UInt8 := [⟨s.setWidth 8⟩, ⟨(s >>> 8).setWidth 8⟩, ⟨(s >>> 16).setWidth 8⟩, ⟨(s >>> 24).setWidth 8⟩]
theorem crcL_even (x : BitVec 32) (h : x.getLsbD 0 = false) : crcL x = x >>> 1 := by unfold crcL; rw [h]; simp
theorem crcN_shl : ∀ (n : Nat) (x : BitVec 32), (∀ i, i < n → x.getLsbD i = false) → crcN n x = x >>> n
  | 0, x, _ => by simp [crcN]
  | n + 1, x, h => by
    rw [crcN, crcL_even x (h 0 (by omega)), crcN_shl n _ (fun i hi => by rw [BitVec.getLsbD_ushiftRight]; exact h _ (by omega)), ← BitVec.shiftRight_add, Nat.add_comm]
/-- Four bytes, the lowest first, are a word. -/
theorem crcN_byte (r s : BitVec 32) : crcN 8 (r ^^^ s) = crcB r ⟨s.setWidth 8⟩ ^^^ (s >>> 8) := by
  have h : s = (s.setWidth 8).setWidth 32 ^^^ (s >>> 8) <<< 8 := by
    apply BitVec.eq_of_getLsbD_eq
    intro i hi
    simp only [BitVec.getLsbD_xor, BitVec.getLsbD_setWidth, BitVec.getLsbD_shiftLeft, BitVec.getLsbD_ushiftRight]
    by_cases h8 : i < 8
    · simp [h8, hi]
    · have e : 8 + (i - 8) = i := by omega
      simp [h8, hi, e]
  have hs : crcN 8 ((s >>> 8) <<< 8) = s >>> 8 := by
    rw [crcN_shl 8 _ (fun i hi => by simp; omega)]
    apply BitVec.eq_of_getLsbD_eq
    intro i hi
    simp only [BitVec.getLsbD_ushiftRight, BitVec.getLsbD_shiftLeft]
    have h1 : ¬ 8 + i < 8 := by omega
    have h2 : 8 + (8 + i - 8) = 8 + i := by omega
    by_cases h3 : 8 + i < 32
    · simp [h3]
    · simp [h3, BitVec.getLsbD_of_ge s (8 + i) (by omega)]
  conv => lhs; rw [h]
  rw [← BitVec.xor_assoc, crcN_xor, hs]
  rfl
theorem crcF_word (r s : BitVec 32) : crcF r (crcDigest s) = crcN 32 (r ^^^ s) := by
  have h4 : crcN 32 (r ^^^ s) = crcN (8 + (8 + (8 + 8))) (r ^^^ s) := rfl
  rw [h4, crcN_add, crcN_byte, crcN_add, crcN_byte, crcN_add, crcN_byte, crcN_byte]
  simp only [← BitVec.shiftRight_add]
  have h0 : s >>> (8 + 8 + 8 + 8) = 0#32 := by
    apply BitVec.eq_of_getLsbD_eq
    intro i hi
    simp
  rw [h0, BitVec.xor_zero]
  rfl
theorem crc_close (bs : List UInt8) : crcMore (crcSum bs) (crcDigest (crcSum bs)) = 0x48674bc7#32 := by
  unfold crcMore
  rw [crcF_word, not_eq_xor (crcSum bs), BitVec.xor_comm (crcSum bs), BitVec.xor_assoc, BitVec.xor_self, BitVec.xor_zero]
  decide
/-! ### Bits one by one -/
def crcBits (r : BitVec 32) (bs : List Bool) : BitVec 32 := bs.foldl (fun r b => crcL (r ^^^ (if b then 1#32 else 0#32))) r
def bitsOf (b : UInt8) : List Bool := (List.range 8).map fun i => b.toBitVec.getLsbD i
def wordOf : List Bool → BitVec 32
  | [] => 0#32
  | b :: bs => (if b then 1#32 else 0#32) ^^^ (wordOf bs) <<< 1
theorem crcBits_append (r : BitVec 32) (xs ys : List Bool) : crcBits r (xs ++ ys) = crcBits (crcBits r xs) ys := List.foldl_append
theorem wordOf_hi : ∀ (bs : List Bool) (i : Nat), bs.length ≤ i → (wordOf bs).getLsbD i = false := by
  intro bs
  induction bs with
  | nil => intro i _; simp [wordOf]
  | cons c cs ihc =>
    intro i hi
    have hi' : cs.length + 1 ≤ i := hi
    obtain ⟨j, rfl⟩ : ∃ j, i = j + 1 := ⟨i - 1, by omega⟩
    rw [wordOf, BitVec.getLsbD_xor, BitVec.getLsbD_shiftLeft]
    have := ihc j (by omega)
    cases c <;> simp [this]
theorem crcBits_word (bs : List Bool) (r : BitVec 32) (h : bs.length ≤ 32) : crcBits r bs = crcN bs.length (r ^^^ wordOf bs) := by
  induction bs generalizing r with
  | nil => simp [crcBits, wordOf, crcN]
  | cons b bs ih =>
    have e : crcBits r (b :: bs) = crcBits (crcL (r ^^^ (if b then 1#32 else 0#32))) bs := rfl
    have hl : (b :: bs).length = bs.length + 1 := rfl
    rw [hl] at h
    rw [e, ih _ (by omega), hl, crcN, wordOf, ← BitVec.xor_assoc, crcL_xor (_ ^^^ _)]
    congr 2
    rw [crcL_even _ (by simp)]
    apply BitVec.eq_of_getLsbD_eq
    intro i hi
    rw [BitVec.getLsbD_ushiftRight, BitVec.getLsbD_shiftLeft]
    by_cases h3 : 1 + i < 32
    · simp [h3]
    · simp [h3]; exact wordOf_hi bs i (by omega)
theorem wordOf_bit (bs : List Bool) (h : bs.length ≤ 32) (i : Nat) (hi : i < bs.length) : (wordOf bs).getLsbD i = bs[i] := by
  induction bs generalizing i with
  | nil => simp at hi
  | cons b bs ih =>
    rw [wordOf, BitVec.getLsbD_xor, BitVec.getLsbD_shiftLeft]
    cases i with
    | zero => cases b <;> simp
    | succ i =>
      have hl : bs.length + 1 ≤ 32 := h
      have hi' : i + 1 < bs.length + 1 := hi
      have := ih (by omega) i (by omega)
      cases b <;> simp [this] <;> omega
theorem crcB_bits (r : BitVec 32) (b : UInt8) : crcB r b = crcBits r (bitsOf b) := by
  rw [crcBits_word _ _ (by simp [bitsOf])]
  have hl : (bitsOf b).length = 8 := by simp [bitsOf]
  rw [hl]
  unfold crcB
  congr 2
  apply BitVec.eq_of_getLsbD_eq
  intro i hi
  rw [BitVec.getLsbD_setWidth]
  by_cases h8 : i < 8
  · rw [wordOf_bit _ (by omega) i (by omega)]
    simp [bitsOf, hi]
  · rw [wordOf_hi _ i (by omega), BitVec.getLsbD_of_ge _ i (by omega)]
    simp

def bitsL (bs : List UInt8) : List Bool := bs.flatMap bitsOf
theorem crcF_bits (r : BitVec 32) (bs : List UInt8) : crcF r bs = crcBits r (bitsL bs) := by
  induction bs generalizing r with
  | nil => rfl
  | cons b bs ih =>
    have e : bitsL (b :: bs) = bitsOf b ++ bitsL bs := by rw [bitsL, List.flatMap_cons]; rfl
    rw [crcF_cons, ih, crcB_bits, e, crcBits_append]
theorem bitsL_length (bs : List UInt8) : (bitsL bs).length = 8 * bs.length := by
  induction bs with
  | nil => rfl
  | cons b bs ih => rw [bitsL, List.flatMap_cons, List.length_append]; rw [bitsL] at ih; rw [ih]; simp [bitsOf]; omega
def bitAt (bs : List UInt8) (k : Nat) : Bool := (bs.getD (k / 8) 0).toBitVec.getLsbD (k % 8)
theorem bitsL_get (bs : List UInt8) (k : Nat) (h : k < 8 * bs.length) : (bitsL bs)[k]? = some (bitAt bs k) := by
  induction bs generalizing k with
  | nil => simp at h
  | cons b bs ih =>
    have hl : (bitsOf b).length = 8 := by simp [bitsOf]
    rw [bitsL, List.flatMap_cons]
    by_cases h8 : k < 8
    · rw [List.getElem?_append_left (by omega)]
      have e1 : k / 8 = 0 := by omega
      have e2 : k % 8 = k := by omega
      simp [bitsOf, bitAt, e1, e2, h8]
    · rw [List.getElem?_append_right (by omega), hl]
      have := ih (k - 8) (by simp at h; omega)
      rw [bitsL] at this
      rw [this]
      have e1 : k / 8 = (k - 8) / 8 + 1 := by omega
      have e2 : k % 8 = (k - 8) % 8 := by omega
      simp [bitAt, e1, e2]
def xorL (xs ys : List Bool) : List Bool := List.zipWith (fun a b => a ^^ b) xs ys
theorem crcBits_xor (xs ys : List Bool) (h : xs.length = ys.length) (r s : BitVec 32) : crcBits r xs ^^^ crcBits s ys = crcBits (r ^^^ s) (xorL xs ys) := by
  induction xs generalizing ys r s with
  | nil => cases ys with
    | nil => rfl
    | cons => simp at h
  | cons x xs ih =>
    cases ys with
    | nil => simp at h
    | cons y ys =>
      have e1 : crcBits r (x :: xs) = crcBits (crcL (r ^^^ (if x then 1#32 else 0#32))) xs := rfl
      have e2 : crcBits s (y :: ys) = crcBits (crcL (s ^^^ (if y then 1#32 else 0#32))) ys := rfl
      have e3 : crcBits (r ^^^ s) (xorL (x :: xs) (y :: ys)) = crcBits (crcL (r ^^^ s ^^^ (if (x ^^ y) then 1#32 else 0#32))) (xorL xs ys) := rfl
      rw [e1, e2, e3, ih ys (by simpa using h), ← crcL_xor]
      congr 2
      apply BitVec.eq_of_getLsbD_eq
      intro i hi
      simp only [BitVec.getLsbD_xor]
      have hb : ∀ c : Bool, (if c then 1#32 else 0#32).getLsbD i = (c && decide (i = 0)) := fun c => by cases c <;> simp
      rw [hb, hb, hb]
      generalize r.getLsbD i = a
      generalize s.getLsbD i = b
      generalize decide (i = 0) = c
      clear e1 e2 e3 h
      revert a b c x y
      decide
theorem crcBits_false (n : Nat) (r : BitVec 32) : crcBits r (List.replicate n false) = crcN n r := by
  induction n generalizing r with
  | zero => rfl
  | succ n ih =>
    have e : crcBits r (List.replicate (n + 1) false) = crcBits (crcL (r ^^^ 0#32)) (List.replicate n false) := rfl
    rw [e, ih, BitVec.xor_zero]
    rfl
theorem false_of (xs : List Bool) (h : ∀ x ∈ xs, x = false) : xs = List.replicate xs.length false := List.eq_replicate_iff.2 ⟨rfl, h⟩
/-- Bits that are turned within 32 in a row turn the sum. -/
theorem crcBits_turned (d : List Bool) (at_ : Nat) (hw : ∀ k, d[k]? = some true → at_ ≤ k ∧ k < at_ + 32) (h : crcBits 0#32 d = 0#32) : ∀ x ∈ d, x = false := by
  have e : d = d.take at_ ++ ((d.drop at_).take 32 ++ (d.drop at_).drop 32) := by rw [List.take_append_drop, List.take_append_drop]
  have h1 : ∀ x ∈ d.take at_, x = false := by
    intro x hx
    obtain ⟨k, hk, rfl⟩ := List.getElem_of_mem hx
    cases hv : (d.take at_)[k] with
    | false => rfl
    | true =>
      have hk' : k < at_ := by have := List.length_take_le at_ d; omega
      have hl : k < d.length := by simp at hk; omega
      have := hw k (by rw [List.getElem?_eq_getElem hl]; rw [List.getElem_take] at hv; rw [hv])
      omega
  have h3 : ∀ x ∈ (d.drop at_).drop 32, x = false := by
    intro x hx
    obtain ⟨k, hk, rfl⟩ := List.getElem_of_mem hx
    cases hv : ((d.drop at_).drop 32)[k] with
    | false => rfl
    | true =>
      have hl : at_ + (32 + k) < d.length := by simp at hk; omega
      have := hw (at_ + (32 + k)) (by rw [List.getElem?_eq_getElem hl]; rw [List.getElem_drop, List.getElem_drop] at hv; rw [hv])
      omega
  rw [e, crcBits_append, crcBits_append, false_of _ h1, crcBits_false, crcN_zero, false_of _ h3, crcBits_false] at h
  have h2 := crcN_eq_zero _ _ h
  have hl32 : ((d.drop at_).take 32).length ≤ 32 := List.length_take_le _ _
  rw [crcBits_word _ _ hl32, BitVec.zero_xor] at h2
  have h4 := crcN_eq_zero _ _ h2
  have h5 : ∀ x ∈ (d.drop at_).take 32, x = false := by
    intro x hx
    obtain ⟨k, hk, rfl⟩ := List.getElem_of_mem hx
    rw [← wordOf_bit _ hl32 k hk, h4]
    simp
  intro x hx
  rw [e] at hx
  simp only [List.mem_append] at hx
  rcases hx with hx | hx | hx
  · exact h1 x hx
  · exact h5 x hx
  · exact h3 x hx
theorem crc_turned (as cs : List UInt8) (hl : as.length = cs.length) (at_ : Nat) (hw : ∀ k, k < 8 * as.length → bitAt as k ≠ bitAt cs k → at_ ≤ k ∧ k < at_ + 32)
    (h : crcSum as = crcSum cs) : as = cs := by
  have hF : crcF (~~~ 0#32) as = crcF (~~~ 0#32) cs := by
    have := congrArg (fun x => ~~~ x) h
    simpa [crcSum, crcMore] using this
  rw [crcF_bits, crcF_bits] at hF
  have hx := crcBits_xor (bitsL as) (bitsL cs) (by rw [bitsL_length, bitsL_length, hl]) (~~~ 0#32) (~~~ 0#32)
  rw [hF, BitVec.xor_self, BitVec.xor_self] at hx
  have hlen : (xorL (bitsL as) (bitsL cs)).length = 8 * as.length := by simp [xorL, bitsL_length, hl]
  have hget : ∀ k, k < 8 * as.length → (xorL (bitsL as) (bitsL cs))[k]? = some (bitAt as k ^^ bitAt cs k) := by
    intro k hk
    simp [xorL, List.getElem?_zipWith, bitsL_get as k hk, bitsL_get cs k (by omega)]
  have hall := crcBits_turned (xorL (bitsL as) (bitsL cs)) at_ (fun k hk => by
    have hlt : k < 8 * as.length := by
      rw [← hlen]
      exact (List.getElem?_eq_some_iff.1 hk).1
    rw [hget k hlt] at hk
    refine hw k hlt fun he => ?_
    rw [he] at hk
    simp at hk) hx.symm
  apply List.ext_getElem hl
  intro i h1 h2
  apply UInt8.eq_of_toBitVec_eq
  apply BitVec.eq_of_getLsbD_eq
  intro j hj
  have hk : 8 * i + j < 8 * as.length := by omega
  have := hall _ (List.mem_of_getElem? (hget (8 * i + j) hk))
  have e1 : (8 * i + j) / 8 = i := by omega
  have e2 : (8 * i + j) % 8 = j := by omega
  simp only [bitAt, e1, e2] at this
  rw [List.getD_eq_getElem?_getD, List.getD_eq_getElem?_getD, List.getElem?_eq_getElem h1, List.getElem?_eq_getElem h2] at this
  simpa using this
#print axioms crc_turned
#print axioms crc_close
#print axioms crcSum_xor3
#print axioms crc_join
end Go.Proofs.Ytccbkagmglddfaa
