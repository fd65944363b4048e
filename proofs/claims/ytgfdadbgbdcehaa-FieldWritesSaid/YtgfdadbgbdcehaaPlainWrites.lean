/- Fields one behind the other: what is written is read back: the plain law. -/
import Derived.Test.YtgfdadbgbdcehaaTwo
import Derived.Test.YtgfdadbgbdcehaaWriterB
import Derived.Test.YtgfdadbgbdcehaaWrParts
namespace Go.Proofs.Ytgfdadbgbdcehaa
open Go.RowKit
set_option linter.unusedVariables false
set_option linter.unusedSimpArgs false

/-- A field in a block. -/
def Op4 (W : World) (B : Nat) (k s n : Int) (v : Value) : Prop :=
  W.cell? ⟨B, 0, none⟩ = some (.int .i64 k) ∧ W.cell? ⟨B, 1, none⟩ = some (.int .i64 s) ∧ W.cell? ⟨B, 2, none⟩ = some (.int .i64 n) ∧ W.cell? ⟨B, 3, none⟩ = some v
theorem Op4.upd {S : Nat → Prop} {W W' : World} {B : Nat} {k s n : Int} {v : Value} (h : Op4 W B k s n v) (hu : Upd S W W') (hn : ¬ S B) : Op4 W' B k s n v := ⟨hu.cell h.1 hn, hu.cell h.2.1 hn, hu.cell h.2.2.1 hn, hu.cell h.2.2.2 hn⟩
theorem Op4.new (W : World) (k s n : Int) (v : Value) (t : TypeId) (B : Nat) (hB : B = W.heap.size) : Op4 (W.alloc (.cells #[.int .i64 k, .int .i64 s, .int .i64 n, v] t)) B k s n v := by
  subst hB
  have h : (W.alloc (.cells #[.int .i64 k, .int .i64 s, .int .i64 n, v] t)).heap[W.heap.size]? = some (.cells #[.int .i64 k, .int .i64 s, .int .i64 n, v] t) := heap_alloc_new W _
  refine ⟨?_, ?_, ?_, ?_⟩ <;> rw [cell_of_row _ _ _ _ t (0, 0) h] <;> rfl
theorem snoc_ind {α : Type} {P : List α → Prop} (h0 : P []) (h1 : ∀ xs x, P xs → P (xs ++ [x])) : ∀ xs, P xs := by
  intro xs
  have h : ∀ ys : List α, P ys.reverse := by
    intro ys
    induction ys with
    | nil => simpa using h0
    | cons y ys ih => rw [List.reverse_cons]; exact h1 _ _ ih
  simpa using h xs.reverse
/-- A writer behind one field more. -/
def wStep (st : List UInt8 × Int) (o : OpD) : List UInt8 × Int :=
  if o.kind = 4 then (wbL st.1 st.2 o.size o.ps, wbE st.2 o.size o.ps.length) else (wrL st.1 st.2 o.size o.n, wrE st.2 o.size o.n)
def wAll (os : List OpD) : List UInt8 × Int := os.foldl wStep ([], 0)
/-- A field's bytes. -/
def encO (o : OpD) : List UInt8 := if o.kind = 4 then numB o.ps.length o.size.toNat ++ o.ps else numB o.n o.size.toNat
theorem wAll_snoc (os : List OpD) (o : OpD) : wAll (os ++ [o]) = wStep (wAll os) o := by simp [wAll, List.foldl_append]
theorem wStep_err (bs : List UInt8) (e : Int) (o : OpD) (he : e ≠ 0) : wStep (bs, e) o = (bs, e) := by
  unfold wStep
  split
  · simp [wbL, wbE, he]
  · simp [wrL, wrE, he]
/-- Where it goes well, the field's bytes are added. -/
theorem wStep_ok (bs : List UInt8) (o : OpD) (h : (wStep (bs, 0) o).2 = 0) : wStep (bs, 0) o = (bs ++ encO o, 0) := by
  unfold wStep at h ⊢
  unfold encO
  by_cases hk : o.kind = 4
  · rw [if_pos hk] at h ⊢
    rw [if_pos hk]
    simp only at h ⊢
    have hE : addE o.size o.ps.length = 0 := by simpa [wbE] using h
    refine Prod.ext ?_ h
    show wbL bs 0 o.size o.ps = _
    unfold wbL
    rw [if_pos ⟨rfl, hE⟩]
    unfold addE at hE
    unfold addL
    cases ht : rightB o.size with
    | false => rw [ht] at hE; simp at hE
    | true =>
      rw [ht] at hE
      cases ho : addOk o.size o.ps.length with
      | false => rw [ho] at hE; simp at hE
      | true => simp
  · rw [if_neg hk] at h ⊢
    rw [if_neg hk]
    refine Prod.ext ?_ h
    show wrL bs 0 o.size o.n = _
    unfold wrL
    rw [if_pos h]
/-- All went well: then all before did, and the bytes are the fields', one behind the other. -/
theorem wAll_ok (os : List OpD) (h : (wAll os).2 = 0) : (wAll os).1 = os.flatMap encO ∧ ∀ i (hi : i < os.length), ∀ bs, (wStep (bs, 0) (os[i]'hi)).2 = 0 := by
  have hind : ∀ (os : List OpD), (wAll os).2 = 0 → (wAll os).1 = os.flatMap encO ∧ ∀ o ∈ os, ∀ bs, (wStep (bs, 0) o).2 = 0 := by
    refine snoc_ind ?_ ?_
    · intro _; exact ⟨rfl, fun o ho => by simp at ho⟩
    · intro os o ih h
      rw [wAll_snoc] at h ⊢
      by_cases he : (wAll os).2 = 0
      · obtain ⟨h1, h2⟩ := ih he
        have hst : wAll os = ((wAll os).1, 0) := Prod.ext rfl he
        rw [hst] at h ⊢
        have h3 := wStep_ok _ _ h
        rw [h3]
        refine ⟨by simp [h1], fun o' ho' bs => ?_⟩
        rcases List.mem_append.1 ho' with ho' | ho'
        · exact h2 o' ho' bs
        · have : o' = o := by simpa using ho'
          subst this
          have hb : ∀ bs bs', (wStep (bs, 0) o').2 = (wStep (bs', 0) o').2 := by
            intro bs bs'
            unfold wStep
            split <;> rfl
          rw [hb bs (wAll os).1]
          exact h
      · have hst : wAll os = ((wAll os).1, (wAll os).2) := rfl
        rw [hst, wStep_err _ _ _ he] at h
        exact absurd h he
  obtain ⟨h1, h2⟩ := hind os h
  exact ⟨h1, fun i hi => h2 _ (List.getElem_mem hi)⟩
theorem wAll_length (os : List OpD) (hp : ∀ o ∈ os, o.ps.length ≤ 140737488351232) : (wAll os).1.length ≤ os.length * 65540 := by
  revert os
  refine snoc_ind ?_ ?_
  · intro _; simp [wAll]
  · intro os o ih hp
    have := ih fun o ho => hp o (by simp [ho])
    rw [wAll_snoc]
    have hs : (wStep (wAll os) o).1.length ≤ (wAll os).1.length + 65540 := by
      unfold wStep
      split
      · simp only
        unfold wbL
        split
        · exact addL_le _ _ _ (hp o (by simp))
        · omega
      · simp only
        unfold wrL
        split
        · rename_i hz
          rw [List.length_append, numB_length]
          unfold wrE at hz
          split at hz
          · omega
          · split at hz
            · omega
            · omega
        · omega
    simp
    omega
theorem emod_step (n M : Int) (hM : 0 < M) : n % (M * 256) = (n / 256 % M) * 256 + n % 256 := by
  have h1 := Int.mul_ediv_add_emod n 256
  have h2 := Int.mul_ediv_add_emod (n / 256) M
  have h3 := Int.emod_nonneg n (show (256 : Int) ≠ 0 by decide)
  have h4 := Int.emod_lt_of_pos n (show (0 : Int) < 256 by decide)
  have h5 := Int.emod_nonneg (n / 256) (show M ≠ 0 by omega)
  have h6 := Int.emod_lt_of_pos (n / 256) hM
  have e : n = (n / 256 % M * 256 + n % 256) + (M * 256) * (n / 256 / M) := by
    have h7 : (M * 256) * (n / 256 / M) = 256 * (M * (n / 256 / M)) := by rw [Int.mul_comm M 256, Int.mul_assoc]
    rw [h7]
    omega
  conv => lhs; rw [e]
  rw [Int.add_mul_emod_self_left]
  exact Int.emod_eq_of_lt (by omega) (by omega)
theorem valB_numB_mod (n : Int) (k : Nat) (h : 0 ≤ n) : valB (numB n k) = n % 256 ^ k := by
  induction k generalizing n with
  | zero => simp [numB, valB, Int.emod_one]
  | succ k ih =>
    have h3 := Int.emod_nonneg n (show (256 : Int) ≠ 0 by decide)
    have h4 := Int.emod_lt_of_pos n (show (0 : Int) < 256 by decide)
    have hp : (0 : Int) < 256 ^ k := Int.pow_pos (by decide)
    rw [numB_snoc n k h, valB_snoc, ih (n / 256) (Int.ediv_nonneg h (by decide)), Int.pow_succ, emod_step n _ hp]
    congr 1
    rw [UInt8.toNat_ofNat']
    omega
theorem List.drop_of_append_of_length_eq {α : Type} (xs ys : List α) (n : Nat) (h : xs.length = n) : (xs ++ ys).drop n = ys := by
  subst h
  exact List.drop_left
/-- What is read of a field that was written. -/
theorem read_num (o : OpD) (rest : List UInt8) (hk : o.kind ≠ 4) (h : ∀ bs, (wStep (bs, 0) o).2 = 0) (hn : -9223372036854775808 ≤ o.n ∧ o.n ≤ 9223372036854775807) :
    rnE 0 o.size (encO o ++ rest).length = 0 ∧ rnL (encO o ++ rest) 0 o.size = rest ∧ 1 ≤ o.size ∧ o.size ≤ 8 ∧ (rnN (encO o ++ rest) 0 o.size = o.n ∨ (o.n < 0 ∧ o.size < 8 ∧ rnN (encO o ++ rest) 0 o.size = o.n + 2 ^ (8 * o.size).toNat)) := by
  have h0 := h []
  unfold wStep at h0
  rw [if_neg hk] at h0
  simp only at h0
  have hE : encO o = numB o.n o.size.toNat := by unfold encO; rw [if_neg hk]
  rcases wr_parts 0 o.size o.n with he | ⟨_, h1⟩ | ⟨_, h1, h2, h3⟩ | ⟨_, h1, h2, h3⟩
  · simp at he
  · unfold wrE at h0; rw [if_neg (by simp), if_pos h1] at h0; omega
  · unfold wrE at h0; rw [if_neg (by simp), if_neg (by omega), if_pos ⟨h2, h3⟩] at h0; omega
  · have hlen : (encO o ++ rest).length = o.size.toNat + rest.length := by rw [hE, List.length_append, numB_length]
    have hrE : rnE 0 o.size (encO o ++ rest).length = 0 := by
      unfold rnE
      rw [if_neg (by simp), if_neg (by omega), hlen, if_neg (by omega)]
    have hl2 : (numB o.n o.size.toNat).length = o.size.toNat := numB_length _ _
    refine ⟨hrE, ?_, h1, h2, ?_⟩
    · unfold rnL
      rw [if_pos hrE, hE, List.drop_append_of_le_length (by omega), List.drop_of_length_le (by omega), List.nil_append]
    · unfold rnN
      rw [if_pos hrE, hE, List.take_append_of_le_length (by omega), List.take_of_length_le (by omega)]
      have hm := numB_mod o.n o.size.toNat (by omega)
      have hv := valB_numB_mod (o.n % 18446744073709551616) o.size.toNat (by omega)
      rw [hm] at hv
      rw [hv]
      unfold wrap64
      have hpos : o.n % 18446744073709551616 = if o.n < 0 then o.n + 18446744073709551616 else o.n := by split <;> omega
      rw [hpos]
      rcases lits8 o.size h1 h2 with e | e | e | e | e | e | e | e
      all_goals
        rw [e] at h3 ⊢
        simp only [Int.reduceMul, Int.reduceSub, Int.reduceToNat, Int.reducePow, Int.reduceNeg, Int.reduceEq, Int.reduceLT, false_or, true_or] at h3 ⊢
        clear hrE hl2 hm hv hlen
        by_cases hneg : o.n < 0
        · rw [if_pos hneg]
          first | (right; refine ⟨hneg, trivial, ?_⟩; omega) | (left; omega)
        · rw [if_neg hneg]
          left
          omega
/-- The two lists of fields that are still to be read. -/
theorem read_bytes (o : OpD) (rest : List UInt8) (hk : o.kind = 4) (h : ∀ bs, (wStep (bs, 0) o).2 = 0) :
    rbE (encO o ++ rest) 0 o.size = 0 ∧ rbP (encO o ++ rest) 0 o.size = o.ps ∧ rbL (encO o ++ rest) 0 o.size = rest := by
  have h0 := h []
  unfold wStep at h0
  rw [if_pos hk] at h0
  simp only at h0
  have hE : addE o.size o.ps.length = 0 := by simpa [wbE] using h0
  unfold addE at hE
  cases ht : rightB o.size with
  | false => rw [ht] at hE; simp at hE
  | true =>
    rw [ht] at hE
    cases ho : addOk o.size o.ps.length with
    | false => rw [ho] at hE; simp at hE
    | true =>
      have hf : o.ps.length ≤ 65536 ∧ fitsB o.ps.length o.size = true := by simpa [addOk] using ho
      have hs : o.size = 1 ∨ o.size = 2 ∨ o.size = 4 := by simpa [rightB] using ht
      have hfl : (o.ps.length : Int) < 256 ^ o.size.toNat := by simpa [fitsB] using hf.2
      have hD : encO o ++ rest = numB o.ps.length o.size.toNat ++ (o.ps ++ rest) := by unfold encO; rw [if_pos hk, List.append_assoc]
      have hl2 : (numB (o.ps.length : Int) o.size.toNat).length = o.size.toNat := numB_length _ _
      have hV : cutV (numB o.ps.length o.size.toNat ++ (o.ps ++ rest)) o.size = o.ps.length := by
        unfold cutV
        rw [List.take_append_of_le_length (by omega), List.take_of_length_le (by omega)]
        exact valB_numB _ _ (by omega) hfl
      have hX : cutE (numB o.ps.length o.size.toNat ++ (o.ps ++ rest)) o.size = 0 := by
        unfold cutE
        rw [ht, if_pos rfl, hV, List.length_append, List.length_append, hl2, if_neg (by omega), if_neg (by omega), if_neg (by omega)]
      have hN : cutN (numB o.ps.length o.size.toNat ++ (o.ps ++ rest)) o.size = o.size + o.ps.length := by unfold cutN; rw [if_pos hX, hV]
      rw [hD]
      refine ⟨by simp [rbE, hX], ?_, ?_⟩
      · have : rbP (numB o.ps.length o.size.toNat ++ (o.ps ++ rest)) 0 o.size = cutP (numB o.ps.length o.size.toNat ++ (o.ps ++ rest)) o.size := by simp [rbP]
        rw [this]
        unfold cutP
        rw [if_pos hX, hV, List.drop_append_of_le_length (by omega), List.drop_of_length_le (by omega), List.nil_append, Int.toNat_natCast, List.take_append_of_le_length (Nat.le_refl _), List.take_of_length_le (Nat.le_refl _)]
      · have : rbL (numB o.ps.length o.size.toNat ++ (o.ps ++ rest)) 0 o.size = (numB o.ps.length o.size.toNat ++ (o.ps ++ rest)).drop (cutN (numB o.ps.length o.size.toNat ++ (o.ps ++ rest)) o.size).toNat := by simp [rbL, hX]
        rw [this, hN, ← List.append_assoc]
        exact List.drop_of_append_of_length_eq _ _ _ (by rw [List.length_append, hl2]; omega)
end Go.Proofs.Ytgfdadbgbdcehaa
