/- An image in pieces (chapter 07): what is cut, put together again, turned and cut off. Plain Lean: no program in sight. -/
import Derived.Test.YtccbkagmglddfaaChkA
import Derived.Test.YtccbkagmglddfaaTurn
namespace Go.Proofs.Ytccbkagmglddfaa
open Go.RowKit
set_option linter.unusedVariables false
set_option linter.unusedSimpArgs false
set_option maxRecDepth 20000
theorem splN_pos (len : Nat) (size : Int) : 1 ≤ splN len size := Nat.le_max_right _ _
theorem splN_le (len : Nat) (size : Int) (h : 1 ≤ size) : len ≤ splN len size * size.toNat := by
  have hz : 1 ≤ size.toNat := by omega
  unfold splN
  generalize size.toNat = sz at hz
  have h1 := Nat.div_add_mod (len + sz - 1) sz
  have h2 := Nat.mod_lt (len + sz - 1) (show 0 < sz by omega)
  have h3 : (len + sz - 1) / sz * sz ≤ max ((len + sz - 1) / sz) 1 * sz := Nat.mul_le_mul_right _ (Nat.le_max_left _ _)
  rw [Nat.mul_comm sz] at h1
  omega
theorem splN_lt (len : Nat) (size : Int) (h : 1 ≤ size) {k : Nat} (hk : k < splN len size) (h0 : 0 < k) : k * size.toNat < len := by
  have hz : 1 ≤ size.toNat := by omega
  unfold splN at hk
  generalize size.toNat = sz at hz hk
  have h1 := Nat.div_add_mod (len + sz - 1) sz
  have hq : k + 1 ≤ (len + sz - 1) / sz := by omega
  have h2 : (k + 1) * sz ≤ (len + sz - 1) / sz * sz := Nat.mul_le_mul_right _ hq
  rw [Nat.mul_comm sz] at h1
  rw [Nat.add_mul, Nat.one_mul] at h2
  omega
theorem splN_at (len : Nat) (size : Int) (h : 1 ≤ size) {k : Nat} (hk : k < splN len size) : k * size.toNat ≤ len := by
  rcases Nat.eq_zero_or_pos k with rfl | h0
  · simp
  · exact Nat.le_of_lt (splN_lt len size h hk h0)
theorem cutAt_length (b : List UInt8) (sz k : Nat) : (cutAt b sz k).length = min sz (b.length - k * sz) := by unfold cutAt; rw [List.length_take, List.length_drop]
theorem cuts_take (b : List UInt8) (sz m : Nat) : (List.range m).flatMap (cutAt b sz) = b.take (m * sz) := by
  induction m with
  | zero => simp
  | succ m ih =>
    rw [List.range_succ, List.flatMap_append, ih]
    simp only [List.flatMap_cons, List.flatMap_nil, List.append_nil]
    unfold cutAt
    rw [Nat.add_mul, Nat.one_mul, List.take_add]
theorem cuts_all (b : List UInt8) (size : Int) (h : 1 ≤ size) : (List.range (splN b.length size)).flatMap (cutAt b size.toNat) = b := by
  rw [cuts_take]
  exact List.take_of_length_le (splN_le _ _ h)
theorem splE_ok {id size : Int} {len : Nat} (h : splE id len size = 0) : (1 ≤ id ∧ id ≤ 1152921504606846976) ∧ (1 ≤ size ∧ size ≤ 4096) ∧ len ≤ 65536 ∧ splN len size ≤ 256 := by
  unfold splE at h
  split at h
  · omega
  · split at h
    · omega
    · omega
section
variable {id size : Int} {b : List UInt8}
theorem splP_reads (h : splE id b.length size = 0) {k : Nat} (hk : k < splN b.length size) :
    readE (splP id b size k) = 0 ∧ idP (splP id b size k) = id ∧ kP (splP id b size k) = k ∧ nP (splP id b size k) = splN b.length size ∧ sP (splP id b size k) = u32v (crcSum b) ∧ bP (splP id b size k) = cutAt b size.toNat k := by
  obtain ⟨h1, h2, h3, h4⟩ := splE_ok h
  refine read_piece h1 ⟨by omega, by omega⟩ (by omega) (u32v_range _) ?_
  rw [cutAt_length]
  omega
/-- What is gathered when the pieces that D says are there. -/
def stL (b : List UInt8) (sz N : Nat) (D : Nat → Bool) : List (Option (List UInt8)) := (List.range N).map fun k => if D k then some (cutAt b sz k) else Option.none
def stC (id : Int) (b : List UInt8) (size : Int) (D : Nat → Bool) (a : Int) : Cs := ⟨id, u32v (crcSum b), stL b size.toNat (splN b.length size) D, a⟩
theorem stL_length (b : List UInt8) (sz N : Nat) (D : Nat → Bool) : (stL b sz N D).length = N := by unfold stL; simp
theorem stL_get (b : List UInt8) (sz N : Nat) (D : Nat → Bool) {k : Nat} (hk : k < N) : (stL b sz N D)[k]? = some (if D k then some (cutAt b sz k) else Option.none) := by
  unfold stL
  rw [List.getElem?_map, List.getElem?_range hk]
  rfl
theorem putAt_st (b : List UInt8) (sz N : Nat) (D : Nat → Bool) {k : Nat} (hk : k < N) : putAt (stL b sz N D) k (cutAt b sz k) = stL b sz N (fun j => D j || decide (j = k)) := by
  unfold putAt
  have hg := stL_get b sz N D hk
  cases hD : D k with
  | true =>
    rw [hg, hD, if_neg (by simp)]
    unfold stL
    refine List.map_congr_left fun j hj => ?_
    by_cases e : j = k
    · subst e; simp [hD]
    · simp [e]
  | false =>
    rw [hg, hD, if_pos (by simp)]
    refine List.ext_getElem? fun j => ?_
    by_cases hj : j < N
    · rw [stL_get b sz N _ hj]
      by_cases e : k = j
      · subst e
        rw [List.getElem?_set_self (by rw [stL_length]; exact hj)]
        simp
      · rw [List.getElem?_set_ne e, stL_get b sz N D hj]
        simp [Ne.symm e]
    · rw [List.getElem?_eq_none (by rw [List.length_set, stL_length]; omega), List.getElem?_eq_none (by rw [stL_length]; omega)]
theorem add_first (h : splE id b.length size = 0) {k : Nat} (hk : k < splN b.length size) (c : Cs) (hc : c.id < id) :
    c.addE (splP id b size k) = 0 ∧ c.add (splP id b size k) = stC id b size (fun j => decide (j = k)) (c.added + 1) := by
  obtain ⟨h0, h1, h2, h3, h4, h5⟩ := splP_reads h hk
  have he : c.addE (splP id b size k) = 0 := by unfold Cs.addE; rw [if_neg (by rw [h0]; simp), h1, if_neg (by omega), if_pos hc]
  refine ⟨he, ?_⟩
  unfold Cs.add
  rw [if_pos he]
  have ht : c.to (splP id b size k) = ⟨id, u32v (crcSum b), stL b size.toNat (splN b.length size) (fun _ => false), c.added⟩ := by
    unfold Cs.to
    rw [h1, h3, h4, if_pos hc]
    unfold stL
    simp [List.map_const']
  rw [ht, h2, h5]
  unfold stC
  simp only [Int.toNat_natCast, putAt_st b size.toNat _ _ hk, Bool.false_or]
theorem add_next (h : splE id b.length size = 0) {k : Nat} (hk : k < splN b.length size) (D : Nat → Bool) (a : Int) :
    (stC id b size D a).addE (splP id b size k) = 0 ∧ (stC id b size D a).add (splP id b size k) = stC id b size (fun j => D j || decide (j = k)) (a + 1) := by
  obtain ⟨h0, h1, h2, h3, h4, h5⟩ := splP_reads h hk
  have he : (stC id b size D a).addE (splP id b size k) = 0 := by
    unfold Cs.addE stC
    simp only [h0, h1, h3, h4, stL_length, Int.lt_irrefl, ne_eq, not_true, if_false, or_self]
  refine ⟨he, ?_⟩
  unfold Cs.add
  rw [if_pos he]
  have ht : (stC id b size D a).to (splP id b size k) = stC id b size D a := by
    unfold Cs.to stC
    rw [h1, if_neg (Int.lt_irrefl _)]
  rw [ht, h2, h5]
  unfold stC
  simp only [Int.toNat_natCast, putAt_st b size.toNat _ _ hk]
theorem add_less {a : Int} {c : Cs} {p : List UInt8} (h0 : readE p = 0) (h : idP p < c.id) : c.addE p = 5 ∧ c.add p = c := by
  have he : c.addE p = 5 := by unfold Cs.addE; rw [if_neg (by rw [h0]; simp), if_pos h]
  refine ⟨he, ?_⟩
  unfold Cs.add
  rw [if_neg (by rw [he]; decide)]
theorem add_bad {c : Cs} {p : List UInt8} (h : c.addE p ≠ 0) : c.add p = c := by unfold Cs.add; rw [if_neg h]
theorem whole_all (h : splE id b.length size = 0) {D : Nat → Bool} (hD : ∀ k, k < splN b.length size → D k = true) (a : Int) : (stC id b size D a).whole = some b := by
  obtain ⟨h1, h2, h3, h4⟩ := splE_ok h
  have hs : stL b size.toNat (splN b.length size) D = (List.range (splN b.length size)).map fun k => some (cutAt b size.toNat k) := by
    unfold stL
    refine List.map_congr_left fun j hj => ?_
    rw [hD j (List.mem_range.1 hj), if_pos rfl]
  have hall : allB (stL b size.toNat (splN b.length size) D) = b := by
    rw [hs]
    unfold allB
    rw [List.flatMap_map]
    exact cuts_all b size h2.1
  have hf : (stC id b size D a).full = true := by
    unfold Cs.full stC
    have hn := splN_pos b.length size
    rw [hs]
    simp
    omega
  unfold Cs.whole
  rw [hf]
  unfold stC
  simp only [hall]
  simp [h3]
theorem whole_not {D : Nat → Bool} {k : Nat} (hk : k < splN b.length size) (hD : D k = false) (a : Int) : (stC id b size D a).whole = Option.none := by
  have hf : (stC id b size D a).full = false := by
    unfold Cs.full stC
    have hm : Option.none ∈ stL b size.toNat (splN b.length size) D := by
      have := stL_get b size.toNat (splN b.length size) D hk
      rw [hD] at this
      exact List.mem_of_getElem? this
    have : (stL b size.toNat (splN b.length size) D).any (fun o => o.isNone) = true := List.any_eq_true.2 ⟨_, hm, rfl⟩
    simp [this]
  unfold Cs.whole
  rw [hf]
  simp
end
/-- How many are not there. -/
def lackN (N : Nat) (D : Nat → Bool) : Nat := ((List.range N).filter fun k => !D k).length
theorem miss_length (b : List UInt8) (sz N : Nat) (D : Nat → Bool) : (missL (stL b sz N D)).length = lackN N D := by
  unfold missL lackN
  rw [List.length_map, stL_length]
  congr 1
  refine List.filter_congr fun k hk => ?_
  rw [stL_get b sz N D (List.mem_range.1 hk)]
  cases D k <;> simp
theorem lackN_none (N : Nat) : lackN N (fun _ => false) = N := by
  unfold lackN
  have h : (List.range N).filter (fun k => !(fun _ : Nat => false) k) = List.range N := List.filter_eq_self.2 (fun _ _ => rfl)
  rw [h, List.length_range]
theorem lackN_same {N : Nat} {D E : Nat → Bool} (h : ∀ k, k < N → D k = E k) : lackN N D = lackN N E := by
  unfold lackN
  congr 1
  refine List.filter_congr fun k hk => ?_
  rw [h k (List.mem_range.1 hk)]
theorem lackN_zero {N : Nat} {D : Nat → Bool} : lackN N D = 0 ↔ ∀ k, k < N → D k = true := by
  unfold lackN
  rw [List.length_eq_zero_iff, List.filter_eq_nil_iff]
  constructor
  · intro h k hk
    have := h k (List.mem_range.2 hk)
    simpa using this
  · intro h k hk
    rw [h k (List.mem_range.1 hk)]
    simp
theorem lackN_put : ∀ (N : Nat) (D : Nat → Bool) (k : Nat), k < N → D k = false → lackN N D = lackN N (fun j => D j || decide (j = k)) + 1
  | 0, _, _, h, _ => absurd h (Nat.not_lt_zero _)
  | N + 1, D, k, h, hD => by
    have e : ∀ E : Nat → Bool, lackN (N + 1) E = lackN N E + (if E N then 0 else 1) := fun E => by
      unfold lackN
      rw [List.range_succ, List.filter_append, List.length_append]
      cases hE : E N <;> simp [hE]
    rw [e, e]
    by_cases hk : k = N
    · subst hk
      rw [hD]
      have : lackN k (fun j => D j || decide (j = k)) = lackN k D := lackN_same fun j hj => by simp [Nat.ne_of_lt hj]
      rw [this]
      simp
    · have ih := lackN_put N D k (by omega) hD
      rw [ih]
      have : (D N || decide (N = k)) = D N := by simp [Ne.symm hk]
      simp only [this]
      omega
/-- Turned bits, bytes that are cut off, one byte more. -/
theorem flipN_in (xs ys zs : List UInt8) (t a : Nat) (B : BitVec 32) (ha : a = 8 * xs.length) : ∀ k, t + k ≤ 8 * ys.length → flipN (xs ++ (ys ++ zs)) (a + t) B k = xs ++ (flipN ys t B k ++ zs)
  | 0, _ => rfl
  | k + 1, hk => by
    have ih := flipN_in xs ys zs t a B ha k (by omega)
    have hl := flipN_length ys t B k
    have e1 : (a + t + k) / 8 = xs.length + (t + k) / 8 := by omega
    have e2 : (a + t + k) % 8 = (t + k) % 8 := by omega
    have hlt : (t + k) / 8 < (flipN ys t B k).length := by omega
    rw [flipN, flipN, ih, e1, e2]
    by_cases hb : B.getLsbD k
    · rw [if_pos hb, if_pos hb, List.set_append_right _ _ (by omega), Nat.add_sub_cancel_left, List.set_append_left _ _ hlt]
      congr 3
      rw [List.getD_eq_getElem?_getD, List.getD_eq_getElem?_getD, List.getElem?_append_right (by omega), Nat.add_sub_cancel_left, List.getElem?_append_left hlt]
    · rw [if_neg hb, if_neg hb]
/-- Bytes of the right length read well. -/
theorem read_good {p : List UInt8} (h : p.length = 22 + (cn p 16 2).toNat) (hm : (cn p 16 2).toNat ≤ 65536) : q7E p = 0 := by
  have hr := cn_range p 16 2
  have hm2 : ((cn p 16 2).toNat : Int) = cn p 16 2 := Int.toNat_of_nonneg hr.1
  generalize hM : (cn p 16 2).toNat = m at h hm hm2
  have rz : ∀ (e : Int) (s : Nat) (bs : List UInt8), e = 0 → 1 ≤ s → s ≤ 8 → s ≤ bs.length → rnE e s bs.length = 0 := fun e s bs h1 h2 h3 h4 => by
    unfold rnE
    rw [if_neg (by rw [h1]; simp), if_neg (by omega), if_neg (by omega)]
  have h1 : q1E p = 0 := rz _ 8 _ rfl (by omega) (by omega) (by omega)
  have e1 : q1L p = p.drop 8 := (rn_zero (bs := p) (e := 0) (s := 8) h1).1
  have h2 : q2E p = 0 := rz _ 2 _ h1 (by omega) (by omega) (by rw [e1, List.length_drop]; omega)
  have e2 : q2L p = p.drop 10 := by rw [show q2L p = (q1L p).drop 2 from (rn_zero (bs := q1L p) (e := q1E p) (s := 2) h2).1, e1, List.drop_drop]
  have h3 : q3E p = 0 := rz _ 2 _ h2 (by omega) (by omega) (by rw [e2, List.length_drop]; omega)
  have e3 : q3L p = p.drop 12 := by rw [show q3L p = (q2L p).drop 2 from (rn_zero (bs := q2L p) (e := q2E p) (s := 2) h3).1, e2, List.drop_drop]
  have h4 : q4E p = 0 := rz _ 4 _ h3 (by omega) (by omega) (by rw [e3, List.length_drop]; omega)
  have e4 : q4L p = p.drop 16 := by rw [show q4L p = (q3L p).drop 4 from (rn_zero (bs := q3L p) (e := q3E p) (s := 4) h4).1, e3, List.drop_drop]
  have hv : cutV (q4L p) 2 = m := by rw [hm2]; unfold cutV cn; rw [e4]; rfl
  have hl4 : (q4L p).length = 6 + m := by rw [e4, List.length_drop]; omega
  have hc : cutE (q4L p) 2 = 0 := by
    rcases cut_cases (q4L p) 2 with ⟨c1, c2⟩ | ⟨c1, c3, c2⟩ | ⟨c1, c3, c4, c2⟩ | ⟨c1, c3, c4, c5, c2⟩ | ⟨c1, c3, c4, c5, c2⟩
    · exact absurd c1 (by decide)
    · omega
    · omega
    · omega
    · exact c2
  have h5 : q5E p = 0 := by unfold q5E rbE; rw [if_neg (by rw [h4]; simp)]; exact hc
  have e5 : q5L p = p.drop (18 + m) := by
    unfold q5L rbL
    rw [if_neg (by rw [h4]; simp), if_pos hc]
    unfold cutN
    rw [if_pos hc, hv, e4, List.drop_drop]
    congr 1
    omega
  have h6 : q6E p = 0 := rz _ 4 _ h5 (by omega) (by omega) (by rw [e5, List.length_drop]; omega)
  have e6 : q6L p = p.drop (22 + m) := by rw [show q6L p = (q5L p).drop 4 from (rn_zero (bs := q5L p) (e := q5E p) (s := 4) h6).1, e5, List.drop_drop]; congr 1; omega
  unfold q7E reE
  rw [h6, e6, List.length_drop, if_neg (by omega)]
theorem readE_own {p : List UInt8} (h : readE p = 0) : q7E p = 0 ∧ ownP p = u32v (crcSum (p.take (p.length - 4))) ∧ ¬ badP p := by
  unfold readE at h
  split at h
  · rename_i h1; exact absurd h h1
  · rename_i h1
    split at h
    · omega
    · rename_i h2
      split at h
      · omega
      · rename_i h3; exact ⟨Classical.not_not.1 h1, Classical.not_not.1 h2, h3⟩
theorem cn_take (p : List UInt8) (m : Nat) (hm : 18 ≤ m) : cn (p.take m) 16 2 = cn p 16 2 := by
  unfold cn
  rw [List.drop_take, List.take_take, Nat.min_eq_left (by omega)]
theorem tell_turn {p : List UInt8} (h : readE p = 0) (t : Nat) (B : BitVec 32) (k : Nat) (h32 : k ≤ 32) (hany : anyN B k = true) (hin : t + k ≤ 128 ∨ (144 ≤ t ∧ t + k ≤ 8 * (p.length - 4))) : readE (flipN p t B k) = 12 := by
  obtain ⟨h7, how, -⟩ := readE_own h
  obtain ⟨hlen, -, -, -, -, -, hown⟩ := read_ok h7
  have hr := cn_range p 16 2
  have hm2 : ((cn p 16 2).toNat : Int) = cn p 16 2 := Int.toNat_of_nonneg hr.1
  have hmr : (cn p 16 2).toNat < 65536 := by rw [p256_2] at hr; omega
  have hfl := flipN_length p t B k
  have hc16 : cn (flipN p t B k) 16 2 = cn p 16 2 := by
    rcases hin with hin | hin
    · have h1 := flipN_in [] (p.take 16) (p.drop 16) t 0 B rfl k (by rw [List.length_take]; omega)
      simp only [List.nil_append, List.take_append_drop, Nat.zero_add] at h1
      have hl := flipN_length (p.take 16) t B k
      rw [h1]
      unfold cn
      rw [List.drop_left' (by rw [hl, List.length_take]; omega)]
    · obtain ⟨t', rfl⟩ : ∃ t', t = 144 + t' := ⟨t - 144, by omega⟩
      have h1 := flipN_in (p.take 18) (p.drop 18) [] t' 144 B (by rw [List.length_take]; omega) k (by rw [List.length_drop]; omega)
      simp only [List.append_nil, List.take_append_drop] at h1
      have h2 : (flipN p (144 + t') B k).take 18 = p.take 18 := by rw [h1]; exact List.take_left' (by rw [List.length_take]; omega)
      rw [← cn_take _ 18 (Nat.le_refl _), h2, cn_take _ 18 (Nat.le_refl _)]
  generalize hM : (cn p 16 2).toNat = m at hlen hown hm2 hmr
  have hb := flipN_in [] (p.take (18 + m)) (p.drop (18 + m)) t 0 B rfl k (by rw [List.length_take]; omega)
  simp only [List.nil_append, List.take_append_drop, Nat.zero_add] at hb
  have hbl := flipN_length (p.take (18 + m)) t B k
  have hne := turned_sum (p.take (18 + m)) t B k h32 (by rw [List.length_take]; omega) hany
  have hg : q7E (flipN p t B k) = 0 := read_good (by rw [hfl, hc16, hM]; exact hlen) (by rw [hc16, hM]; omega)
  obtain ⟨-, -, -, -, -, -, hown2⟩ := read_ok hg
  rw [hc16, hM] at hown2
  have e1 : (flipN p t B k).take ((flipN p t B k).length - 4) = flipN (p.take (18 + m)) t B k := by
    rw [hfl, hlen, show 22 + m - 4 = 18 + m by omega, hb]
    exact List.take_left' (by rw [hbl, List.length_take]; omega)
  have e2 : ownP (flipN p t B k) = ownP p := by
    rw [hown2, hown, hb]
    unfold cn
    rw [List.drop_left' (by rw [hbl, List.length_take]; omega)]
  unfold readE
  rw [if_neg (by rw [hg]; simp), if_pos]
  rw [e1, e2, how, hlen, show 22 + m - 4 = 18 + m by omega]
  intro e
  refine hne ?_
  unfold u32v at e
  exact BitVec.eq_of_toNat_eq (by omega)
theorem tell_cut {p : List UInt8} (h : q7E p = 0) {m : Nat} (hm : m < p.length) : q7E (p.take m) ≠ 0 := by
  intro e
  have h1 := (read_ok h).1
  have h2 := (read_ok e).1
  rw [List.length_take] at h2
  by_cases h18 : 18 ≤ m
  · rw [cn_take p m h18] at h2
    omega
  · omega
theorem tell_more {p : List UInt8} (h : q7E p = 0) (x : UInt8) : q7E (p ++ [x]) ≠ 0 := by
  intro e
  have h1 := (read_ok h).1
  have h2 := (read_ok e).1
  have h3 : cn (p ++ [x]) 16 2 = cn p 16 2 := by
    rw [← cn_take (p ++ [x]) 18 (Nat.le_refl _), ← cn_take p 18 (Nat.le_refl _), List.take_append_of_le_length (by omega)]
  rw [h3, List.length_append, List.length_singleton] at h2
  omega
theorem readE_ne {p : List UInt8} (h : q7E p ≠ 0) : readE p ≠ 0 := by unfold readE; rw [if_pos h]; exact h
theorem addE_ne {c : Cs} {p : List UInt8} (h : readE p ≠ 0) : c.addE p = readE p := by unfold Cs.addE; rw [if_pos h]
end Go.Proofs.Ytccbkagmglddfaa
