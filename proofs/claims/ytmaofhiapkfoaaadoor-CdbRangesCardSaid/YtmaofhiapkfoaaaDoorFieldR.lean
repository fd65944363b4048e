/- What the reference's Put, and both Gets, compute. -/
import Derived.Test.YtmaofhiapkfoaaaDoorFieldW
namespace Go.Proofs.YtmaofhiapkfoaaaDoor
open Go.RowKit
set_option maxRecDepth 20000
set_option linter.unusedVariables false
set_option linter.unusedSimpArgs false

theorem rfits_num (n size : Int) (h1 : 0 ≤ n) (h3 : 1 ≤ size) (h9 : size < 8) : (decide (8 ≤ size) || decide (n < IntKind.u64.wrap (2 ^ (8 * size).toNat))) = fitsB n size := by
  have e : (2 : Int) ^ (8 * size).toNat = 256 ^ size.toNat := by
    rw [show (8 * size).toNat = 8 * size.toNat by omega, Int.pow_mul]
    rfl
  have hw : IntKind.u64.wrap (2 ^ (8 * size).toNat) = 256 ^ size.toNat := by
    rcases (show size = 1 ∨ size = 2 ∨ size = 3 ∨ size = 4 ∨ size = 5 ∨ size = 6 ∨ size = 7 by omega) with rfl | rfl | rfl | rfl | rfl | rfl | rfl <;> decide
  have h8 : ¬ 8 ≤ size := by omega
  unfold fitsB
  rw [hw]
  simp [h8]
theorem rfits_any (n size : Int) (w : World) (h1 : 0 ≤ n) (h2 : n ≤ 18446744073709551615) (h3 : 1 ≤ size) (h4 : size ≤ 8) :
    Calls Tryd.prog 63 #[.int .u64 n, .int .i64 size] w fun e w' => e = .returned (.bool (fitsB n size)) ∧ w = w' := by
  by_cases h8 : size = 8
  · subst h8
    go_enter Tryd.func63, Tryd.ntmps63
    go_wp2
    go_ret
    exact ⟨ret_bool (by unfold fitsB; simp; omega), rfl⟩
  · have h9 : size < 8 := by omega
    go_enter Tryd.func63, Tryd.ntmps63
    go_wp2
    go_ret
    exact ⟨ret_bool (rfits_num n size h1 h3 h9), rfl⟩
theorem take_set_snoc (xs L : List UInt8) (i k m : Nat) (hL : L.length = m) (hk : k < m) (hi : i + m ≤ xs.length) :
    (xs.take i ++ L.take k ++ xs.drop (i + k)).set (i + k) (L.getD k 0) = xs.take i ++ L.take (k + 1) ++ xs.drop (i + (k + 1)) := by
  have h1 : (xs.take i ++ L.take k).length = i + k := by simp; omega
  rw [List.set_append_right _ _ (by omega), h1, Nat.sub_self]
  have h2 : xs.drop (i + k) = xs[i + k]'(by omega) :: xs.drop (i + k + 1) := List.drop_eq_getElem_cons (by omega)
  rw [h2, List.set_cons_zero, List.take_succ_eq_append_getElem (l := L) (i := k) (by omega)]
  rw [List.getD_eq_getElem?_getD, List.getElem?_eq_getElem (by omega)]
  simp only [Option.getD_some, List.append_assoc, List.cons_append, List.nil_append, Nat.add_assoc]
theorem numB_at (n : Int) (m k : Nat) (hk : k < m) (h0 : 0 ≤ n) : n / 2 ^ (8 * (m - 1 - k)) % 256 = at8 [(numB n m).getD k 0] 0 := by
  have h : ∀ (m k : Nat), k < m → (numB n m).getD k 0 = UInt8.ofNat (n / 256 ^ (m - 1 - k) % 256).toNat := by
    intro m
    induction m with
    | zero => intro k hk; omega
    | succ m ih =>
      intro k hk
      rw [numB]
      cases k with
      | zero => simp
      | succ k =>
        rw [List.getD_cons_succ, ih k (by omega), show m + 1 - 1 - (k + 1) = m - 1 - k by omega]
  rw [h m k hk]
  have e : (2 : Int) ^ (8 * (m - 1 - k)) = 256 ^ (m - 1 - k) := by rw [Int.pow_mul]; rfl
  rw [e, at8_one _ (by omega) (by omega)]
theorem rput_bs (v : Value) (bs : List UInt8) (at_ size n : Int) (w : World) (h : Bs w v bs) (hl : bs.length ≤ 200000000000000) (h1 : -9223372036854775808 ≤ at_) (h2 : at_ ≤ 9223372036854775807) (h3 : -9223372036854775808 ≤ size) (h4 : size ≤ 9223372036854775807) (h5 : 0 ≤ n) (h6 : n ≤ 18446744073709551615) :
    Calls Tryd.prog 62 #[v, .int .i64 at_, .int .i64 size, .int .u64 n] w fun e w' => ∃ v', e = .returned (.tuple #[v', .int .i64 (putE bs.length at_ size n)]) ∧ Fresh w.heap.size w' v' (putL bs at_ size n) ∧ Same w w' := by
  have hi5 : (Tryd.prog.info? 5).map (fun i => (i.zero, i.size, i.bytes)) = some (some (.int .u8 0), 1, 1) := by kernel_rfl
  obtain ⟨A, cap, rfl, k1, k2, k3⟩ := id h
  cases ht : thereB bs.length at_ size with
  | false =>
    have hE : putE bs.length at_ size n = 1 := by unfold putE; rw [ht]; rfl
    have hL : putL bs at_ size n = [] := by unfold putL; rw [ht]; rfl
    rw [hE, hL]
    have hts : ¬ (1 ≤ size ∧ size ≤ 8 ∧ 0 ≤ at_ ∧ at_ + size ≤ bs.length) := by simpa [thereB] using ht
    clear ht hE hL h
    by_cases c1 : size < 1
    · go_enter Tryd.func62, Tryd.ntmps62
      go_wp2
      go_ret2
      exact ⟨_, rfl, Fresh.nil _ w, Upd.refl _ w⟩
    · by_cases c2 : 8 < size
      · go_enter Tryd.func62, Tryd.ntmps62
        go_wp2
        go_ret2
        exact ⟨_, rfl, Fresh.nil _ w, Upd.refl _ w⟩
      · by_cases c3 : at_ < 0
        · go_enter Tryd.func62, Tryd.ntmps62
          go_wp2
          go_ret2
          exact ⟨_, rfl, Fresh.nil _ w, Upd.refl _ w⟩
        · have c4 : bs.length - size < at_ := by omega
          go_enter Tryd.func62, Tryd.ntmps62
          go_wp2
          go_ret2
          exact ⟨_, rfl, Fresh.nil _ w, Upd.refl _ w⟩
  | true =>
    have hts : 1 ≤ size ∧ size ≤ 8 ∧ 0 ≤ at_ ∧ at_ + size ≤ bs.length := by simpa [thereB] using ht
    have hfi := rfits_any n size w h5 h6 hts.1 hts.2.1
    obtain ⟨hts1, hts2, hts3, hts4⟩ := hts
    cases hf : fitsB n size with
    | false =>
      rw [hf] at hfi
      have hE : putE bs.length at_ size n = 3 := by unfold putE; rw [ht, hf]; rfl
      have hL : putL bs at_ size n = [] := by unfold putL; rw [ht, hf]; rfl
      rw [hE, hL]
      clear ht hE hL hf h
      have c4 : ¬ bs.length - size < at_ := by omega
      go_enter Tryd.func62, Tryd.ntmps62
      go_wp2_with fail
      refine hfi.mono ?_
      rintro e w' ⟨rfl, rfl⟩
      go_wp2
      go_ret2
      exact ⟨_, rfl, Fresh.nil _ w, Upd.refl _ w⟩
    | true =>
      rw [hf] at hfi
      have hE : putE bs.length at_ size n = 0 := by unfold putE; rw [ht, hf]; rfl
      have hL : putL bs at_ size n = bs.take at_.toNat ++ numB n size.toNat ++ bs.drop (at_ + size).toNat := by unfold putL; rw [ht, hf]; rfl
      rw [hE, hL]
      clear ht hE hL hf
      obtain ⟨i, hi⟩ : ∃ i : Nat, (i : Int) = at_ := ⟨at_.toNat, by omega⟩
      obtain ⟨m, hm⟩ : ∃ m : Nat, (m : Int) = size := ⟨size.toNat, by omega⟩
      subst hi hm
      have c4 : ¬ bs.length - (m : Int) < (i : Int) := by omega
      have HF := Lib.hid hfi
      clear hfi
      go_enter Tryd.func62, Tryd.ntmps62
      go_wp2_with fail
      refine HF.out.mono ?_
      rintro e w' ⟨rfl, rfl⟩
      go_wp2_with (at_builtin; refine wpl_append_bytes rfl (.tmp 34) (.tmp 35) 25 rfl Tryd.underlying25 hi5 w.heap.size (.slice none 0 0) (.slice A bs.length cap) [] bs bs rfl rfl rfl (Fresh.nil _ _) h (Nat.le_refl _) (by simpa using hl) ?_; intro v2 w2 hf2 hu2 hr2)
      have hs2 : Same w w2 := hu2.mono fun i _ hi => by simp [room] at hi
      have hlen : i + m ≤ bs.length := by omega
      obtain ⟨b, off, cp, rfl, hcp⟩ : ∃ b off cp, v2 = .slice (some ⟨b, off, none⟩) bs.length cp ∧ bs.length ≤ cp := by
        rcases hf2.bs.cases with ⟨e, _⟩ | ⟨_, b, off, cp, rfl, e, _⟩
        · rw [e] at hlen; simp at hlen; omega
        · exact ⟨b, off, cp, rfl, e⟩
      have HLEN := Lib.hid hlen
      clear hlen hu2 hr2 h
      go_loopw [11] (fun v11 wr => ∃ k : Nat, k ≤ m ∧ v11 = .int .i64 k ∧ Fresh w.heap.size wr (.slice (some ⟨b, off, none⟩) bs.length cp) (bs.take i ++ (numB n m).take k ++ bs.drop (i + k)) ∧ Same w wr) (fun v11 _ => m - (intOf v11).toNat)
      case atStart => exact ⟨0, by omega, rfl, by simpa using hf2, hs2⟩
      case round =>
        obtain ⟨k, hk, rfl, hf, hs⟩ := hrel
        have hl2 : (bs.take i ++ (numB n m).take k ++ bs.drop (i + k)).length = bs.length := by
          have := HLEN.out
          simp [numB_length]
          omega
        by_cases hlt : k < m
        · obtain ⟨hcell, hfr⟩ := hf.at_ (i + k) (by have := HLEN.out; omega)
          obtain ⟨f1, f2, f3⟩ := hf.set (i + k) (by have := HLEN.out; omega) ((numB n m).getD k 0) _ (numB_at n m k hlt h5)
          rw [take_set_snoc _ _ _ _ _ (numB_length n m) hlt HLEN.out] at f1
          have hs3 := Same.into hs f2 fun j e => by rw [e]; exact f3
          have F1 := Lib.hid f1
          have S3 := Lib.hid hs3
          have g1 : (i : Int) + (k : Int) < (bs.length : Int) := by have := HLEN.out; omega
          have g2 : (8 * ((m : Int) - 1 - (k : Int))).toNat = 8 * (m - 1 - k) := by omega
          clear f1 f2 hs3 hf hl2
          go_wp2_with fail
          go_roundw
          case rel => exact ⟨k + 1, by omega, by go_num, F1.out, S3.out⟩
          case measure => simp [intOf]; omega
        · have hkm : k = m := by omega
          subst hkm
          have F1 := Lib.hid hf
          have S1 := Lib.hid hs
          clear hf hs hl2
          go_wp2_with fail
          go_ret2
          exact ⟨_, rfl, by rw [Int.toNat_natCast, Int.toNat_natCast, show ((i : Int) + (k : Int)).toNat = i + k by omega]; have := F1.out; rwa [List.take_of_length_le (l := numB n k) (i := k) (by rw [numB_length]; omega)] at this, S1.out⟩

theorem valB_take_snoc (L : List UInt8) (k : Nat) (hk : k < L.length) : valB (L.take (k + 1)) = valB (L.take k) * 256 + at8 L k := by
  rw [List.take_succ_eq_append_getElem hk, valB_snoc]
  unfold at8
  rw [List.getD_eq_getElem?_getD, List.getElem?_eq_getElem hk]
  rfl
/-- The bytes of a number's place: what the loop has gone through is a number that has room for one byte more. -/
theorem valB_room (L : List UInt8) (k : Nat) (hk : k < L.length) (h8 : L.length ≤ 8) : 0 ≤ valB (L.take k) ∧ valB (L.take k) * 256 < 18446744073709551616 := by
  have h := valB_range (L.take k)
  have hl : (L.take k).length ≤ 7 := by simp; omega
  have hp : (256 : Int) ^ (L.take k).length ≤ 72057594037927936 := by
    have h1 : 256 ^ (L.take k).length ≤ 256 ^ 7 := Nat.pow_le_pow_right (by decide) hl
    have h2 : ((256 ^ (L.take k).length : Nat) : Int) ≤ ((256 ^ 7 : Nat) : Int) := Int.ofNat_le.2 h1
    rw [Int.natCast_pow] at h2
    exact h2
  omega
theorem shl8_or (x c : Int) (h0 : 0 ≤ x) (h1 : x * 256 < 18446744073709551616) (h2 : 0 ≤ c) (h3 : c ≤ 255) : bits .or .u64 (x * 256) c = x * 256 + c := by
  obtain ⟨X, rfl⟩ := Int.eq_ofNat_of_zero_le h0
  obtain ⟨C, rfl⟩ := Int.eq_ofNat_of_zero_le h2
  rw [u64_or _ _ (by omega) (by omega) (by omega) (by omega)]
  have e : (((X : Int) * 256).toNat ||| ((C : Int)).toNat) = X * 256 + C := by
    have e1 : ((X : Int) * 256).toNat = 2 ^ 8 * X := by omega
    rw [e1, Int.toNat_natCast]
    have := Nat.two_pow_add_eq_or_of_lt (i := 8) (b := C) (by omega) X
    omega
  rw [e]
  omega
/-- field.Get. -/
theorem get_bs (v : Value) (bs : List UInt8) (at_ size : Int) (w : World) (h : Bs w v bs) (h1 : -9223372036854775808 ≤ at_) (h2 : at_ ≤ 9223372036854775807) (h3 : -9223372036854775808 ≤ size) (h4 : size ≤ 9223372036854775807) :
    Calls Tryd.prog 38 #[v, .int .i64 at_, .int .i64 size] w fun e w' => e = .returned (.tuple #[.int .u64 (getN bs at_ size), .int .i64 (getE bs.length at_ size)]) ∧ w = w' := by
  obtain ⟨A, cap, rfl, k1, k2, k3⟩ := id h
  have hth := there_any A bs.length cap at_ size w h1 h2 h3 h4 (by omega)
  cases ht : thereB bs.length at_ size with
  | false =>
    rw [ht] at hth
    have hE : getE bs.length at_ size = 1 := by unfold getE; rw [ht]; rfl
    have hN : getN bs at_ size = 0 := by unfold getN; rw [ht]; rfl
    rw [hE, hN]
    clear hE hN ht
    go_enter Tryd.func38, Tryd.ntmps38
    go_wp2_with fail
    refine hth.mono ?_
    rintro e w' ⟨rfl, rfl⟩
    go_wp2
    go_ret2
    exact ⟨rfl, rfl⟩
  | true =>
    rw [ht] at hth
    have hts : 1 ≤ size ∧ size ≤ 8 ∧ 0 ≤ at_ ∧ at_ + size ≤ bs.length := by simpa [thereB] using ht
    have hE : getE bs.length at_ size = 0 := by unfold getE; rw [ht]; rfl
    have hN : getN bs at_ size = valB ((bs.drop at_.toNat).take size.toNat) := by unfold getN; rw [ht]; rfl
    rw [hE, hN]
    clear hE hN ht
    obtain ⟨hts1, hts2, hts3, hts4⟩ := hts
    obtain ⟨i, hi⟩ : ∃ i : Nat, (i : Int) = at_ := ⟨at_.toNat, by omega⟩
    obtain ⟨m, hm⟩ : ∃ m : Nat, (m : Int) = size := ⟨size.toNat, by omega⟩
    subst hi hm
    have hlen : i + m ≤ bs.length := by omega
    obtain ⟨b, off, rfl, _⟩ := h.at_ 0 (by omega)
    rw [Int.toNat_natCast, Int.toNat_natCast]
    obtain ⟨L, hL⟩ : ∃ L, L = (bs.drop i).take m := ⟨_, rfl⟩
    have hLl : L.length = m := by rw [hL]; simp; omega
    have hcell : ∀ j, j < m → w.cell? ⟨b, off + i + j, none⟩ = some (.int .u8 (at8 L j)) := by
      obtain ⟨A', c', e, q1, q2, q3⟩ := h
      injection e with e1 e2 e3
      rcases q3 with q3 | ⟨b', o', e', q3⟩
      · rw [q3] at hlen; simp at hlen; omega
      · rw [e'] at e1
        injection e1 with e1
        injection e1 with e1 e4
        subst e1 e4
        intro j hj
        have := (q3.drop i).take m j (by rw [← hL]; omega)
        rw [← hL] at this
        exact this
    rw [← hL]
    have HH := Lib.hid hth
    have HLL := Lib.hid hLl
    clear hth hL hLl k3 h
    have hlen' : (i : Int) + (m : Int) ≤ (cap : Int) := by omega
    have c1 : ¬ cap = i := by omega
    go_enter Tryd.func38, Tryd.ntmps38
    go_wp2_with fail
    refine HH.out.mono ?_
    rintro e w' ⟨rfl, rfl⟩
    go_wp2_with fail
    go_loop [8, 23] (fun v8 v23 => ∃ k : Nat, k ≤ m ∧ v23 = .int .i64 k ∧ v8 = .int .u64 (valB (L.take k))) (fun _ v23 => m - (intOf v23).toNat)
    case atStart => exact ⟨0, by omega, rfl, rfl⟩
    case round =>
      obtain ⟨k, hk, rfl, rfl⟩ := hrel
      by_cases hlt : k < m
      · have hc := hcell k hlt
        obtain ⟨r1, r2⟩ := valB_room L k (by have := HLL.out; omega) (by have := HLL.out; omega)
        have r3 := at8_range L k
        have hv := valB_take_snoc L k (by have := HLL.out; omega)
        obtain ⟨X, hX⟩ : ∃ X, X = valB (L.take k) := ⟨_, rfl⟩
        rw [← hX] at r1 r2 hv ⊢
        have hor := shl8_or X (at8 L k) r1 r2 r3.1 r3.2
        have HV := Lib.hid hv
        have HX := Lib.hid hX
        have g1 : (k : Int) < (m : Int) := by omega
        clear hcell hv hX
        go_wp2_with fail
        go_round
        case rel => exact ⟨k + 1, by omega, by go_num, by rw [HV.out]⟩
        case measure => simp [intOf]; omega
      · have hkm : k = m := by omega
        subst hkm
        clear hcell
        go_wp2_with fail
        go_ret2
        exact ⟨by rw [List.take_of_length_le (l := L) (by have := HLL.out; omega)]; rfl, rfl⟩
/-- The reference's Get. -/
theorem rget_bs (v : Value) (bs : List UInt8) (at_ size : Int) (w : World) (h : Bs w v bs) (h1 : -9223372036854775808 ≤ at_) (h2 : at_ ≤ 9223372036854775807) (h3 : -9223372036854775808 ≤ size) (h4 : size ≤ 9223372036854775807) :
    Calls Tryd.prog 59 #[v, .int .i64 at_, .int .i64 size] w fun e w' => e = .returned (.tuple #[.int .u64 (getN bs at_ size), .int .i64 (getE bs.length at_ size)]) ∧ w = w' := by
  obtain ⟨A, cap, rfl, k1, k2, k3⟩ := id h
  cases ht : thereB bs.length at_ size with
  | false =>
    have hE : getE bs.length at_ size = 1 := by unfold getE; rw [ht]; rfl
    have hN : getN bs at_ size = 0 := by unfold getN; rw [ht]; rfl
    rw [hE, hN]
    have hts : ¬ (1 ≤ size ∧ size ≤ 8 ∧ 0 ≤ at_ ∧ at_ + size ≤ bs.length) := by simpa [thereB] using ht
    clear ht hE hN h
    by_cases c1 : size < 1
    · go_enter Tryd.func59, Tryd.ntmps59
      go_wp2
      go_ret2
      exact ⟨rfl, rfl⟩
    · by_cases c2 : 8 < size
      · go_enter Tryd.func59, Tryd.ntmps59
        go_wp2
        go_ret2
        exact ⟨rfl, rfl⟩
      · by_cases c3 : at_ < 0
        · go_enter Tryd.func59, Tryd.ntmps59
          go_wp2
          go_ret2
          exact ⟨rfl, rfl⟩
        · have c4 : bs.length - size < at_ := by omega
          go_enter Tryd.func59, Tryd.ntmps59
          go_wp2
          go_ret2
          exact ⟨rfl, rfl⟩
  | true =>
    have hts : 1 ≤ size ∧ size ≤ 8 ∧ 0 ≤ at_ ∧ at_ + size ≤ bs.length := by simpa [thereB] using ht
    have hE : getE bs.length at_ size = 0 := by unfold getE; rw [ht]; rfl
    have hN : getN bs at_ size = valB ((bs.drop at_.toNat).take size.toNat) := by unfold getN; rw [ht]; rfl
    rw [hE, hN]
    clear hE hN ht
    obtain ⟨hts1, hts2, hts3, hts4⟩ := hts
    obtain ⟨i, hi⟩ : ∃ i : Nat, (i : Int) = at_ := ⟨at_.toNat, by omega⟩
    obtain ⟨m, hm⟩ : ∃ m : Nat, (m : Int) = size := ⟨size.toNat, by omega⟩
    subst hi hm
    have hlen : i + m ≤ bs.length := by omega
    obtain ⟨b, off, rfl, _⟩ := h.at_ 0 (by omega)
    rw [Int.toNat_natCast, Int.toNat_natCast]
    obtain ⟨L, hL⟩ : ∃ L, L = (bs.drop i).take m := ⟨_, rfl⟩
    have hLl : L.length = m := by rw [hL]; simp; omega
    have hcell : ∀ j, j < m → w.cell? ⟨b, off + i + j, none⟩ = some (.int .u8 (at8 L j)) := by
      obtain ⟨A', c', e, q1, q2, q3⟩ := h
      injection e with e1 e2 e3
      rcases q3 with q3 | ⟨b', o', e', q3⟩
      · rw [q3] at hlen; simp at hlen; omega
      · rw [e'] at e1
        injection e1 with e1
        injection e1 with e1 e4
        subst e1 e4
        intro j hj
        have := (q3.drop i).take m j (by rw [← hL]; omega)
        rw [← hL] at this
        exact this
    rw [← hL]
    have HLL := Lib.hid hLl
    clear hL hLl k3 h
    have c4 : ¬ bs.length - (m : Int) < (i : Int) := by omega
    go_enter Tryd.func59, Tryd.ntmps59
    go_wp2_with fail
    go_loop [8, 9] (fun v8 v23 => ∃ k : Nat, k ≤ m ∧ v23 = .int .i64 k ∧ v8 = .int .u64 (valB (L.take k))) (fun _ v23 => m - (intOf v23).toNat)
    case atStart => exact ⟨0, by omega, rfl, rfl⟩
    case round =>
      obtain ⟨k, hk, rfl, rfl⟩ := hrel
      by_cases hlt : k < m
      · have hc := hcell k hlt
        rw [Nat.add_assoc] at hc
        have g2 : (i : Int) + (k : Int) < (bs.length : Int) := by omega
        obtain ⟨r1, r2⟩ := valB_room L k (by have := HLL.out; omega) (by have := HLL.out; omega)
        have r3 := at8_range L k
        have hv := valB_take_snoc L k (by have := HLL.out; omega)
        obtain ⟨X, hX⟩ : ∃ X, X = valB (L.take k) := ⟨_, rfl⟩
        rw [← hX] at r1 r2 hv ⊢
        have hor := shl8_or X (at8 L k) r1 r2 r3.1 r3.2
        have HV := Lib.hid hv
        have HX := Lib.hid hX
        have g1 : (k : Int) < (m : Int) := by omega
        clear hcell hv hX
        go_wp2_with fail
        go_round
        case rel => exact ⟨k + 1, by omega, by go_num, by rw [HV.out]⟩
        case measure => simp [intOf]; omega
      · have hkm : k = m := by omega
        subst hkm
        clear hcell
        go_wp2_with fail
        go_ret2
        exact ⟨by rw [List.take_of_length_le (l := L) (by have := HLL.out; omega)]; rfl, rfl⟩
end Go.Proofs.YtmaofhiapkfoaaaDoor
