/- The walk of SumsAdd: the sum of three lists of one length added bit by bit is their sums added so. -/
import Derived.Test.YthchmjehcdjpgaaKnown01
import Derived.Deep.RegionHeld3
import Derived.Deep.DeepCutAuto
import Derived.Deep.CutBlock
namespace Go.Proofs.Ythchmjehcdjpgaa
open Go.RowKit
set_option linter.unusedVariables false

/-- Bytes added one by one: the first k of three lists. -/
def add3 (xs ys zs : List UInt8) (k : Nat) : List UInt8 := (List.range k).map fun j => xs.getD j 0 ^^^ ys.getD j 0 ^^^ zs.getD j 0
theorem add3_succ (xs ys zs : List UInt8) (k : Nat) : add3 xs ys zs k ++ [xs.getD k 0 ^^^ ys.getD k 0 ^^^ zs.getD k 0] = add3 xs ys zs (k + 1) := by
  simp [add3, List.range_succ]
theorem add3_length (xs ys zs : List UInt8) (k : Nat) : (add3 xs ys zs k).length = k := by simp [add3]
theorem xor3_get : ∀ (xs ys zs : List UInt8) (j : Nat), j < xs.length → j < ys.length → j < zs.length → (xor3 xs ys zs)[j]? = some (xs.getD j 0 ^^^ ys.getD j 0 ^^^ zs.getD j 0)
  | a :: xs, b :: ys, c :: zs, 0, _, _, _ => by simp [xor3]
  | a :: xs, b :: ys, c :: zs, j + 1, h1, h2, h3 => by
    rw [xor3]
    simpa using xor3_get xs ys zs j (by simpa using h1) (by simpa using h2) (by simpa using h3)
theorem xor3_length : ∀ (xs ys zs : List UInt8), xs.length = ys.length → xs.length = zs.length → (xor3 xs ys zs).length = xs.length
  | [], _, _, _, _ => by cases ‹List UInt8› <;> rfl
  | a :: xs, [], _, h, _ => by simp at h
  | a :: xs, b :: ys, [], _, h => by simp at h
  | a :: xs, b :: ys, c :: zs, h1, h2 => by
    rw [xor3, List.length_cons, List.length_cons, xor3_length xs ys zs (by simpa using h1) (by simpa using h2)]
theorem add3_eq (xs ys zs : List UInt8) (k : Nat) (h1 : k ≤ xs.length) (h2 : k ≤ ys.length) (h3 : k ≤ zs.length) : add3 xs ys zs k = xor3 (xs.take k) (ys.take k) (zs.take k) := by
  apply List.ext_getElem?
  intro j
  by_cases hj : j < k
  · rw [xor3_get _ _ _ j (by simp; omega) (by simp; omega) (by simp; omega)]
    simp [add3, hj, List.getD_eq_getElem?_getD]
  · rw [List.getElem?_eq_none (by rw [add3_length]; omega), List.getElem?_eq_none (by rw [xor3_length] <;> simp <;> omega)]
theorem sum_add3 (xs ys zs : List UInt8) (k : Nat) (h1 : k ≤ xs.length) (h2 : k ≤ ys.length) (h3 : k ≤ zs.length) :
    crcSum (add3 xs ys zs k) = crcSum (xs.take k) ^^^ crcSum (ys.take k) ^^^ crcSum (zs.take k) := by
  rw [add3_eq xs ys zs k h1 h2 h3, crcSum_xor3 _ _ _ (by simp; omega) (by simp; omega)]
theorem add3_num (xs ys zs : List UInt8) (j : Nat) : bits .xor .u8 (bits .xor .u8 (at8 xs j) (at8 ys j)) (at8 zs j) = at8 [xs.getD j 0 ^^^ ys.getD j 0 ^^^ zs.getD j 0] 0 := by
  have ha := (xs.getD j 0).toNat_lt
  have hb := (ys.getD j 0).toNat_lt
  have hc := (zs.getD j 0).toNat_lt
  unfold at8
  rw [u8_xor_nat _ _ ha hb, u8_xor_nat _ _ (Nat.xor_lt_two_pow (n := 8) ha hb) hc]
  simp [UInt8.toNat_xor]

theorem add3_box (xs ys zs : List UInt8) (k : Nat) : ∀ j, j < [xs.getD k 0 ^^^ ys.getD k 0 ^^^ zs.getD k 0].length → (#[Value.int .u8 (bits .xor .u8 (bits .xor .u8 (at8 xs k) (at8 ys k)) (at8 zs k))] : Array Value)[j]? = some (.int .u8 (at8 [xs.getD k 0 ^^^ ys.getD k 0 ^^^ zs.getD k 0] j)) := by
  intro j hj
  have : j = 0 := by simpa using hj
  subst this
  rw [← add3_num]
  rfl
set_option maxRecDepth 10000 in
theorem sumsAdd_walk (w : World) (va : Value) (xs : List UInt8) (ha : Bs w va xs) (la : xs.length ≤ 140737488351232) (vb : Value) (ys : List UInt8) (hb : Bs w vb ys) (lb : ys.length ≤ 140737488351232) (vc : Value) (zs : List UInt8) (hc : Bs w vc zs) (lc : zs.length ≤ 140737488351232) :
    Calls Try.prog 4 #[va, vb, vc] w fun e w' => e = .returned (.bool true) ∧ Same w w' := by
  have hi5 : (Try.prog.info? 5).map (fun i => (i.zero, i.size, i.bytes)) = some (some (.int .u8 0), 1, 1) := by kernel_rfl
  obtain ⟨na, hna⟩ : ∃ n, n = xs.length := ⟨_, rfl⟩
  obtain ⟨nb, hnb⟩ : ∃ n, n = ys.length := ⟨_, rfl⟩
  obtain ⟨nc, hnc⟩ : ∃ n, n = zs.length := ⟨_, rfl⟩
  obtain ⟨A, ca, rfl, hca⟩ : ∃ A cap, va = .slice A na cap ∧ na ≤ cap := by obtain ⟨A, cap, rfl, h1, _⟩ := ha; exact ⟨A, cap, by rw [hna], by rw [hna]; exact h1⟩
  obtain ⟨B, cb, rfl, hcb⟩ : ∃ A cap, vb = .slice A nb cap ∧ nb ≤ cap := by obtain ⟨A, cap, rfl, h1, _⟩ := hb; exact ⟨A, cap, by rw [hnb], by rw [hnb]; exact h1⟩
  obtain ⟨C, cc, rfl, hcc⟩ : ∃ A cap, vc = .slice A nc cap ∧ nc ≤ cap := by obtain ⟨A, cap, rfl, h1, _⟩ := hc; exact ⟨A, cap, by rw [hnc], by rw [hnc]; exact h1⟩
  rw [← hna] at la
  rw [← hnb] at lb
  rw [← hnc] at lc
  have NA := Lib.hid hna
  have NB := Lib.hid hnb
  have NC := Lib.hid hnc
  clear hna hnb hnc
  obtain ⟨m, hm1, hm2, hm3⟩ : ∃ m, m ≤ na ∧ m ≤ nb ∧ Hid (m = if nb < na then nb else na) := ⟨if nb < na then nb else na, by split <;> omega, by split <;> omega, rfl⟩
  obtain ⟨n, hn1, hn2, hn3⟩ : ∃ n, n ≤ m ∧ n ≤ nc ∧ Hid (n = if nc < m then nc else m) := ⟨if nc < m then nc else m, by split <;> omega, by split <;> omega, rfl⟩
  go_enter Try.func4, Try.ntmps4
  go_upto_if 15 with (fail)
  go_cut [7] (fun v7 wx => v7 = .int .i64 m ∧ w = wx)
  case first =>
    go_wp2_with fail
    · go_meet
      exact ⟨by rw [hm3.out, if_pos (by omega)], rfl⟩
    · go_meet
      exact ⟨by rw [hm3.out, if_neg (by omega)], rfl⟩
  case rest =>
    obtain ⟨rfl, rfl⟩ := hcut
    go_upto_if 21 with (fail)
    go_cut [7] (fun v7 wx => v7 = .int .i64 n ∧ w = wx)
    case first =>
      go_wp2_with fail
      · go_meet
        exact ⟨by rw [hn3.out, if_pos (by omega)], rfl⟩
      · go_meet
        exact ⟨by rw [hn3.out, if_neg (by omega)], rfl⟩
    case rest =>
      obtain ⟨rfl, rfl⟩ := hcut
      go_wp2
      go_loopw [8, 9] (fun v8 i wr => ∃ k : Nat, k ≤ n ∧ i = .int .i64 k ∧ Fresh w.heap.size wr v8 (add3 xs ys zs k) ∧ Same w wr) (fun _ i _ => n - (intOf i).toNat)
      case atStart => exact ⟨0, by omega, rfl, Fresh.nil _ _, Upd.refl _ w⟩
      case round =>
        obtain ⟨k, hk, rfl, hf, hs⟩ := hrel
        by_cases hlt : k < n
        · obtain ⟨ba, oa, rfl, ca1⟩ := ha.at_ k (by have := NA.out; omega)
          obtain ⟨bb, ob, rfl, cb1⟩ := hb.at_ k (by have := NB.out; omega)
          obtain ⟨bc, oc, rfl, cc1⟩ := hc.at_ k (by have := NC.out; omega)
          have c1 := hs.cell ca1 id
          have c2 := hs.cell cb1 id
          have c3 := hs.cell cc1 id
          have l1 : (k : Int) < (na : Int) := by omega
          have l2 : (k : Int) < (nb : Int) := by omega
          have l3 : (k : Int) < (nc : Int) := by omega
          clear ha hb hc
          have hn8 : (k : Int) < (n : Int) := by omega
          go_wp2
          go_region_held3 (fun w' => w'.cell? ⟨ba, oa + k, none⟩ = some (.int .u8 (at8 xs k)) ∧ w'.cell? ⟨bb, ob + k, none⟩ = some (.int .u8 (at8 ys k)) ∧ w'.cell? ⟨bc, oc + k, none⟩ = some (.int .u8 (at8 zs k))) (first | assumption | go_keep)
            (first | (refine step_append_bytes rfl (.tmp 29) (.tmp 44) 22 rfl Try.underlying22 hi5 w.heap.size u8 (.slice (some ⟨wr.heap.size, 0, none⟩) 1 1) _ [xs.getD k 0 ^^^ ys.getD k 0 ^^^ zs.getD k 0] (add3 xs ys zs (k + 1)) (add3_succ xs ys zs k) rfl rfl (hf.same (((Upd.refl _ wr).drew).alloc _)) (Bs.lit _ _ _ (0, 0) _ _ 1 1 rfl (add3_box xs ys zs k) rfl (by decide) (by decide)) (by have := hs.size; simp; omega) (by rw [add3_length]; simp; omega) ?_; intro v1 w1 hf1 hu1 hr1; have hs1 := Same.row (Same.trans hs (((Upd.refl _ wr).drew).alloc _)) (hf.same (((Upd.refl _ wr).drew).alloc _)) hu1; have hS1 := And.intro (hs1.cell ca1 id) (And.intro (hs1.cell cb1 id) (hs1.cell cc1 id))))
          all_goals
            go_wp2
            go_roundw
            case rel => exact ⟨k + 1, by omega, by go_num, hf1, hs1⟩
            case measure => simp [intOf]; omega
        · have hkn : k = n := by omega
          subst hkn
          have b0 : Bs wr u8 (add3 xs ys zs k) := hf.bs
          have b1 : Bs wr (.slice A k ca) (xs.take k) := (ha.same hs).take k (by omega)
          have b2 : Bs wr (.slice B k cb) (ys.take k) := (hb.same hs).take k (by omega)
          have b3 : Bs wr (.slice C k cc) (zs.take k) := (hc.same hs).take k (by omega)
          have hx : bits .xor .u32 (bits .xor .u32 (u32v (crcSum (xs.take k))) (u32v (crcSum (ys.take k)))) (u32v (crcSum (zs.take k))) = u32v (crcSum (add3 xs ys zs k)) := by
            rw [u32_xor, u32_xor, sum_add3 xs ys zs k (by have := NA.out; omega) (by have := NB.out; omega) (by have := NC.out; omega)]
          clear ha hb hc hf hn3 hm3
          have k1 : k ≤ ca := by omega
          have k2 : k ≤ cb := by omega
          have k3 : k ≤ cc := by omega
          go_wp2
          go_region_held3 (fun w' => Same wr w') (first | assumption | exact (Upd.refl _ _).drew) (first
            | (go_at_call 10; have hh : Same wr _ := (by assumption); ((with_reducible refine (sum_bs u8 _ _ (b0.same hh)).mono ?_); rintro e w' ⟨rfl, rfl⟩))
            | (go_at_call 10; have hh : Same wr _ := (by assumption); ((with_reducible refine (sum_bs (.slice A k ca) _ _ (b1.same hh)).mono ?_); rintro e w' ⟨rfl, rfl⟩))
            | (go_at_call 10; have hh : Same wr _ := (by assumption); ((with_reducible refine (sum_bs (.slice B k cb) _ _ (b2.same hh)).mono ?_); rintro e w' ⟨rfl, rfl⟩))
            | (go_at_call 10; have hh : Same wr _ := (by assumption); ((with_reducible refine (sum_bs (.slice C k cc) _ _ (b3.same hh)).mono ?_); rintro e w' ⟨rfl, rfl⟩))
            | (go_at_call 12; have hh : Same wr _ := (by assumption); refine (known_any _).mono ?_; rintro e w' ⟨rfl, hs'⟩; have hh' := Same.trans hh hs'))
          all_goals
            have hh : Same wr _ := (by assumption)
            go_wp2
            go_ret
            exact ⟨rfl, Same.trans hs hh⟩
end Go.Proofs.Ythchmjehcdjpgaa
