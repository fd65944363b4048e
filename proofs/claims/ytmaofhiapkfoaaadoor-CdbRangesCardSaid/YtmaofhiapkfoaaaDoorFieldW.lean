/- What the Go functions of field and of its reference compute: there, fits, number, Clone, Put, Get. -/
import Derived.Test.YtmaofhiapkfoaaaDoorField
import Derived.Deep.RegionHeld3
import Derived.Deep.RegionLaw
namespace Go.Proofs.YtmaofhiapkfoaaaDoor
open Go.RowKit
set_option linter.unusedVariables false
set_option linter.unusedSimpArgs false

theorem there_any (A : Option Addr) (n cap : Nat) (at_ size : Int) (w : World) (h1 : -9223372036854775808 ≤ at_) (h2 : at_ ≤ 9223372036854775807) (h3 : -9223372036854775808 ≤ size) (h4 : size ≤ 9223372036854775807) (hn : n ≤ 9223372036854775807) :
    Calls Tryd.prog 55 #[.slice A n cap, .int .i64 at_, .int .i64 size] w fun e w' => e = .returned (.bool (thereB n at_ size)) ∧ w = w' := by
  unfold thereB
  by_cases c1 : 1 ≤ size
  · by_cases c2 : size ≤ 8
    · by_cases c3 : 0 ≤ at_
      · by_cases c4 : size ≤ n
        · by_cases c5 : at_ ≤ n - size
          · go_enter Tryd.func55, Tryd.ntmps55
            go_wp2
            go_ret
            exact ⟨ret_bool (by simp; omega), rfl⟩
          · go_enter Tryd.func55, Tryd.ntmps55
            go_wp2
            go_ret
            exact ⟨ret_bool (by simp; omega), rfl⟩
        · go_enter Tryd.func55, Tryd.ntmps55
          go_wp2
          go_ret
          exact ⟨ret_bool (by simp; omega), rfl⟩
      · go_enter Tryd.func55, Tryd.ntmps55
        go_wp2
        go_ret
        exact ⟨ret_bool (by simp; omega), rfl⟩
    · go_enter Tryd.func55, Tryd.ntmps55
      go_wp2
      go_ret
      exact ⟨ret_bool (by simp; omega), rfl⟩
  · go_enter Tryd.func55, Tryd.ntmps55
    go_wp2
    go_ret
    exact ⟨ret_bool (by simp; omega), rfl⟩
theorem fits_num (n size : Int) (h1 : 0 ≤ n) (h3 : 1 ≤ size) : (n / 2 ^ (8 * size).toNat == 0) = fitsB n size := by
  have e : (2 : Int) ^ (8 * size).toNat = 256 ^ size.toNat := by
    rw [show (8 * size).toNat = 8 * size.toNat by omega, Int.pow_mul]
    rfl
  have hp : (0 : Int) < 256 ^ size.toNat := Int.pow_pos (by decide)
  unfold fitsB
  rw [e, Bool.eq_iff_iff, beq_iff_eq, decide_eq_true_iff]
  constructor
  · intro h
    have := Int.lt_mul_ediv_self_add (x := n) hp
    rw [h] at this
    omega
  · intro h
    exact Int.ediv_eq_zero_of_lt h1 h
theorem fits_any (n size : Int) (w : World) (h1 : 0 ≤ n) (h2 : n ≤ 18446744073709551615) (h3 : 1 ≤ size) (h4 : size ≤ 8) :
    Calls Tryd.prog 56 #[.int .u64 n, .int .i64 size] w fun e w' => e = .returned (.bool (fitsB n size)) ∧ w = w' := by
  by_cases h8 : size = 8
  · subst h8
    go_enter Tryd.func56, Tryd.ntmps56
    go_wp2
    go_ret
    exact ⟨ret_bool (by unfold fitsB; simp; omega), rfl⟩
  · have h9 : (size == 8) = false := by simpa using h8
    go_enter Tryd.func56, Tryd.ntmps56
    go_wp2
    go_ret
    exact ⟨ret_bool (fits_num n size h1 (by omega)), rfl⟩
/-- The eight bytes of a number, as the array holds them. -/
def numArr (n : Int) : Array Value := #[.int .u8 (n / 72057594037927936), .int .u8 (n / 281474976710656 % 256), .int .u8 (n / 1099511627776 % 256), .int .u8 (n / 4294967296 % 256), .int .u8 (n / 16777216 % 256), .int .u8 (n / 65536 % 256), .int .u8 (n / 256 % 256), .int .u8 (n % 256)]
theorem B_ofNat (x : Int) (h0 : 0 ≤ x) (h1 : x < 256) : B (UInt8.ofNat x.toNat) = .int .u8 x := by
  unfold B
  congr 1
  simp
  omega
theorem numArr_eq (n : Int) (h1 : 0 ≤ n) (h2 : n ≤ 18446744073709551615) : (numB n 8).map B = (numArr n).toList := by
  simp only [numB, List.map_cons, List.map_nil, numArr]
  rw [B_ofNat _ (by omega) (by omega), B_ofNat _ (by omega) (by omega), B_ofNat _ (by omega) (by omega), B_ofNat _ (by omega) (by omega), B_ofNat _ (by omega) (by omega), B_ofNat _ (by omega) (by omega), B_ofNat _ (by omega) (by omega), B_ofNat _ (by omega) (by omega)]
  have e7 : n / 256 ^ 7 % 256 = n / 72057594037927936 := by
    have : (256 : Int) ^ 7 = 72057594037927936 := by decide
    rw [this]
    omega
  rw [e7]
  simp
theorem number_any (n : Int) (w : World) (h1 : 0 ≤ n) (h2 : n ≤ 18446744073709551615) :
    Calls Tryd.prog 58 #[.int .u64 n] w fun e w' => e = .returned (.agg (numArr n)) ∧ Same w w' := by
  go_enter Tryd.func58, Tryd.ntmps58
  go_wp2
  refine wp_loop_rounds 9 ?_
  rw [rounds_succ]
  go_wp2
  rw [rounds_succ]
  go_wp2
  rw [rounds_succ]
  go_wp2
  rw [rounds_succ]
  go_wp2
  rw [rounds_succ]
  go_wp2
  rw [rounds_succ]
  go_wp2
  rw [rounds_succ]
  go_wp2
  rw [rounds_succ]
  go_wp2
  rw [rounds_succ]
  go_wp2
  exact bodyPost_ret (v := .agg (numArr n)) (by simp [results, Tryd.results58, go_sem, numArr]) rfl ⟨rfl, ((Upd.refl _ w).alloc _).alloc _⟩
theorem Fresh.empty (base : Nat) (w : World) (A : Option Addr) : Fresh base w (.slice A 0 0) [] := ⟨A, 0, 0, rfl, rfl, by omega, by omega, .inl rfl⟩
/-- slices.Clone of bytes: the same bytes in new memory. -/
theorem clone_bs (v : Value) (bs : List UInt8) (w : World) (h : Bs w v bs) (hl : bs.length ≤ 200000000000000) :
    Calls Tryd.prog 57 #[v] w fun e w' => ∃ v', e = .returned v' ∧ Fresh w.heap.size w' v' bs ∧ Same w w' := by
  have hi5 : (Tryd.prog.info? 5).map (fun i => (i.zero, i.size, i.bytes)) = some (some (.int .u8 0), 1, 1) := by kernel_rfl
  obtain ⟨A, cap, rfl, h1, h2, h3⟩ := h
  have hnil := fun (W : World) (n : Nat) => Lib.run_eql_slice_nil (P := Tryd.prog) W 25 5 A n cap 0 0 Tryd.underlying25
  rcases A with _ | a
  · have hb : bs = [] := by
      rcases h3 with h3 | ⟨_, _, h3, _⟩
      · exact h3
      · cases h3
    subst hb
    go_enter Tryd.func57, Tryd.ntmps57
    go_wp2
    go_ret
    exact ⟨_, rfl, Fresh.nil _ w, Upd.refl _ w⟩
  · go_enter Tryd.func57, Tryd.ntmps57
    go_wp2_with (at_builtin; refine wpl_append_bytes rfl (.tmp 5) (.tmp 6) 25 rfl Tryd.underlying25 hi5 w.heap.size (.slice (some ⟨w.heap.size, 0, none⟩) 0 0) (.slice (some a) bs.length cap) [] bs bs rfl rfl rfl (Fresh.empty _ _ _) (Bs.same ⟨_, cap, rfl, h1, h2, h3⟩ ((Upd.refl _ w).alloc _)) (by simp) (by simpa using hl) ?_; intro v2 w2 hf2 hu2 hr2)
    go_ret
    exact ⟨_, rfl, hf2, ((Upd.refl _ w).alloc _).trans hu2 fun i _ hi => by simp [room] at hi⟩
/-- copy(v[i:], u) at a step of a region that draws its order: bytes of a row of the call's own are written over. -/
theorem step_copy {P : Program} {ops : Array Oper} {o : Oper} {a : Act} {w : World} {K : Act → World → Prop} {Q : Exit → Act → World → Prop} {E : Prop}
    (hg : o.guard = none) (s x : Operand) (t : TypeId) (hop : o.op = Op.call { callee := Callee.builtin Builtin.copy, args := #[s, x], argTypes := #[t, t] })
    {e : TypeId} (ht : P.underlying t = some (.slice e)) (hs : (P.info? e).map (·.size) = some 1)
    (base b off n cap i dl dc : Nat) (u : Value) (xs ys : List UInt8) (hvs : a.eval s = .slice (some ⟨b, off + i, none⟩) dl dc) (hux : a.eval x = u)
    (hv : Fresh base w (.slice (some ⟨b, off, none⟩) n cap) xs) (hu : Bs w u ys) (hdl : ys.length ≤ dl) (hin : i + ys.length ≤ xs.length) (h0 : 0 < ys.length)
    (h : ∀ w', Fresh base w' (.slice (some ⟨b, off, none⟩) n cap) (xs.take i ++ ys ++ xs.drop (i + ys.length)) → Upd (fun k => k = b) w w' → base ≤ b → K (a.put o.dst (.int .i64 ys.length)) w') :
    if Region.wanted o (yielded ops a.tmps) = true then Oper.wp P o a w K Q else E := by
  have hw : Region.wanted o (yielded ops a.tmps) = true := by simp [Region.wanted, hg]
  rw [if_pos hw]
  obtain ⟨A, n', cap', ev, k1, k2, k3, k4⟩ := hv
  injection ev with e1 e2 e3
  subst e2 e3
  have hn : xs.length = n := by simpa using k1
  rcases k4 with k4 | ⟨b', off', e1', hb, hc, hr⟩
  · omega
  rw [e1'] at e1
  injection e1 with e1
  injection e1 with e1 e4
  subst e1 e4
  rcases hu.cases with ⟨rfl, _⟩ | ⟨_, sb, so, sc, rfl, q1, q2, q3⟩
  · simp at h0
  have hroom : ∀ j, j < (ys.map B).length → (w.cell? ⟨b, off + i + j, none⟩).isSome = true ∧ w.frozen? ⟨b, off + i + j, none⟩ = false := fun j hj => by
    have := hr (i + j) (by simp at hj; omega)
    rwa [← Nat.add_assoc] at this
  have hrun := run_copy_cells (P := P) w t t o.type e b (off + i) dl dc ⟨sb, so, none⟩ ys.length sc (ys.map B) ht hs (by show _ = min ys.length dl; rw [Nat.min_eq_left hdl]; simp)
    (fun j v hj => by
      obtain ⟨hj', rfl⟩ := B_get hj
      rw [Addr.add_lit]
      exact q3 j hj') (fun j hj => (hroom j hj).1) (fun j hj => (hroom j hj).2) (B_one ys)
  unfold Oper.wp
  simp [execOp, hop, resolve, invoke, builtin, hvs, hux, hrun, Result.andThen, goInt]
  refine h _ ⟨_, n, cap, rfl, by simp; omega, k2, k3, .inr ⟨b, off, rfl, hb, ?_, ?_⟩⟩ (setCells_upd b _ _ w) hb
  · intro j v hj
    by_cases hji : i ≤ j ∧ j < i + ys.length
    · have hin := World.cell?_setCells_in b (ys.map B) (off + i) w (fun j hj => (hroom j hj).1) (j - i) (by simp; omega)
      rw [show off + j = off + i + (j - i) by omega, hin]
      rw [List.map_append, List.map_append, List.append_assoc, List.getElem?_append_right (by simp; omega), List.getElem?_append_left (by simp; omega)] at hj
      have hl : (List.map B (xs.take i)).length = i := by simp; omega
      rw [hl, List.getElem?_eq_getElem (by simp; omega)] at hj
      exact hj
    · rw [World.cell?_setCells_out b _ _ w ⟨b, off + j, none⟩ (fun _ _ => by simp; omega)]
      refine hc j v ?_
      rw [← hj]
      by_cases hlt : j < i
      · rw [List.map_append, List.map_append, List.append_assoc, List.getElem?_append_left (by simp; omega)]
        simp [hlt]
      · rw [List.map_append, List.map_append, List.getElem?_append_right (by simp; omega)]
        have hl : (List.map B (xs.take i) ++ List.map B ys).length = i + ys.length := by simp; omega
        rw [hl]
        simp only [List.getElem?_map, List.getElem?_drop]
        congr 2
        omega
  · intro j hj
    refine ⟨?_, by rw [World.frozen?_setCells]; exact (hr j hj).2⟩
    by_cases hji : i ≤ j ∧ j < i + ys.length
    · have hin := World.cell?_setCells_in b (ys.map B) (off + i) w (fun j hj => (hroom j hj).1) (j - i) (by simp; omega)
      rw [show off + j = off + i + (j - i) by omega, hin]
      rfl
    · rw [World.cell?_setCells_out b _ _ w ⟨b, off + j, none⟩ (fun _ _ => by simp; omega)]
      exact (hr j hj).1

/-- The last m of a number's eight bytes, as the array is sliced. -/
theorem Bs.num8 (W : World) (n : Int) (t : TypeId) (g q m : Nat) (hg : g = W.heap.size) (hq : q + m = 8) (hm : 1 ≤ m) (h1 : 0 ≤ n) (h2 : n ≤ 18446744073709551615) :
    Bs (W.alloc (.cells (numArr n) t)) (.slice (some ⟨g, q, none⟩) (8 - q) (8 - q)) (numB n m) := by
  subst hg
  have hl : (numB n m).length = 8 - q := by rw [numB_length]; omega
  refine ⟨_, 8 - q, by rw [hl], by omega, by omega, .inr ⟨_, _, rfl, fun j hj => ?_⟩⟩
  have h : (W.alloc (.cells (numArr n) t)).heap[W.heap.size]? = some (.cells (numArr n) t) := heap_alloc_new W _
  rw [cell_of_row _ _ _ _ t (0, 0) h]
  have e : (numArr n)[q + j]? = ((numB n 8).map B)[q + j]? := by rw [numArr_eq n h1 h2]; simp
  have hd : numB n m = (numB n 8).drop q := by
    have := numB_drop n m q
    rw [hq] at this
    exact this.symm
  rw [numB_length] at hj
  rw [e, B_at _ _ (by rw [numB_length]; omega), hd]
  simp [at8, List.getD_eq_getElem?_getD]
/-- field.Put. -/
theorem put_bs (v : Value) (bs : List UInt8) (at_ size n : Int) (w : World) (h : Bs w v bs) (hl : bs.length ≤ 200000000000000) (h1 : -9223372036854775808 ≤ at_) (h2 : at_ ≤ 9223372036854775807) (h3 : -9223372036854775808 ≤ size) (h4 : size ≤ 9223372036854775807) (h5 : 0 ≤ n) (h6 : n ≤ 18446744073709551615) :
    Calls Tryd.prog 37 #[v, .int .i64 at_, .int .i64 size, .int .u64 n] w fun e w' => ∃ v', e = .returned (.tuple #[v', .int .i64 (putE bs.length at_ size n)]) ∧ Fresh w.heap.size w' v' (putL bs at_ size n) ∧ Same w w' := by
  have hcl := clone_bs v bs w h hl
  obtain ⟨A, cap, rfl, k1, k2, k3⟩ := h
  have hth := there_any A bs.length cap at_ size w h1 h2 h3 h4 (by omega)
  cases ht : thereB bs.length at_ size with
  | false =>
    rw [ht] at hth
    have hE : putE bs.length at_ size n = 1 := by unfold putE; rw [ht]; rfl
    have hL : putL bs at_ size n = [] := by unfold putL; rw [ht]; rfl
    rw [hE, hL]
    go_enter Tryd.func37, Tryd.ntmps37
    go_wp2_with fail
    refine hth.mono ?_
    rintro e w' ⟨rfl, rfl⟩
    go_wp2
    go_ret2
    exact ⟨_, rfl, Fresh.nil _ w, Upd.refl _ w⟩
  | true =>
    rw [ht] at hth
    have hts : 1 ≤ size ∧ size ≤ 8 ∧ 0 ≤ at_ ∧ at_ + size ≤ bs.length := by simpa [thereB] using ht
    have hfi := fits_any n size w h5 h6 hts.1 hts.2.1
    cases hf : fitsB n size with
    | false =>
      rw [hf] at hfi
      have hE : putE bs.length at_ size n = 3 := by unfold putE; rw [ht, hf]; rfl
      have hL : putL bs at_ size n = [] := by unfold putL; rw [ht, hf]; rfl
      rw [hE, hL]
      go_enter Tryd.func37, Tryd.ntmps37
      go_wp2_with fail
      refine hth.mono ?_
      rintro e w' ⟨rfl, rfl⟩
      go_wp2_with fail
      refine hfi.mono ?_
      rintro e w' ⟨rfl, rfl⟩
      go_wp2
      go_ret2
      exact ⟨_, rfl, Fresh.nil _ w, Upd.refl _ w⟩
    | true =>
      rw [hf] at hfi
      have hE : putE bs.length at_ size n = 0 := by unfold putE; rw [ht, hf]; rfl
      have hL : putL bs at_ size n = bs.take at_.toNat ++ numB n size.toNat ++ bs.drop (at_ + size).toNat := by unfold putL; rw [ht, hf]; rfl
      rw [hE, hL]
      clear hE hL
      obtain ⟨i, hi⟩ : ∃ i : Nat, (i : Int) = at_ := ⟨at_.toNat, by omega⟩
      obtain ⟨m, hm⟩ : ∃ m : Nat, (m : Int) = size := ⟨size.toNat, by omega⟩
      subst hi hm
      obtain ⟨hts1, hts2, hts3, hts4⟩ := hts
      have hm1 : 1 ≤ m := by omega
      have hm2 : m ≤ 8 := by omega
      have HL : Hid (i + m ≤ bs.length) := by show i + m ≤ bs.length; omega
      have HH := Lib.hid hth
      have HF := Lib.hid hfi
      have HC := Lib.hid hcl
      clear hth hfi hcl ht hf k1 k2 k3
      go_enter Tryd.func37, Tryd.ntmps37
      go_wp2_with fail
      refine HH.out.mono ?_
      rintro e w' ⟨rfl, rfl⟩
      go_wp2_with fail
      refine HF.out.mono ?_
      rintro e w' ⟨rfl, rfl⟩
      go_wp2_with fail
      refine HC.out.mono ?_
      rintro e w1 ⟨v1, rfl, hf1, hs1⟩
      go_wp2_with fail
      refine (number_any n _ h5 h6).mono ?_
      rintro e w2 ⟨rfl, hs2⟩
      simp only [numArr]
      obtain ⟨b, off, cp, rfl, hcp⟩ : ∃ b off cp, v1 = .slice (some ⟨b, off, none⟩) bs.length cp ∧ bs.length ≤ cp := by
        rcases hf1.bs.cases with ⟨e, _⟩ | ⟨_, b, off, cp, rfl, e, _⟩
        · have := HL.out; rw [e] at this; simp at this; omega
        · exact ⟨b, off, cp, rfl, e⟩
      have g1 : i ≤ bs.length := by have := HL.out; omega
      have g2 : ¬ cp = i := by have := HL.out; omega
      obtain ⟨q, hq⟩ : ∃ q, q + m = 8 := ⟨8 - m, by omega⟩
      have hwq : IntKind.i64.wrap (8 - (m : Int)) = (q : Int) := by rw [IntKind.wrap_i64]; omega
      have q1 : (0 : Int) ≤ (q : Int) := by omega
      have q2 : (q : Int) ≤ 8 := by omega
      have q3 : ¬ q = 8 := by omega
      have q4 : ¬ 8 = q := by omega
      have HQ := Lib.hid hq
      clear hq
      go_wp2_with fail
      have hw2 : Same w w2 := Same.trans hs1 hs2
      have hf2 : Fresh w.heap.size w2 (.slice (some ⟨b, off, none⟩) bs.length cp) bs := hf1.same hs2
      have H1 := Lib.hid hf2
      have H2 := Lib.hid hw2
      clear hf1 hf2 hs1 hs2 hw2
      have e1 : ((i : Int)).toNat = i := by omega
      have e2 : ((m : Int)).toNat = m := by omega
      have e3 : ((i : Int) + (m : Int)).toNat = i + m := by omega
      have E1 := Lib.hid e1
      have E2 := Lib.hid e2
      have E3 := Lib.hid e3
      clear e1 e2 e3
      go_region_held3 (fun w' => True) (trivial)
        (first | (refine step_copy rfl (.tmp 29) (.tmp 32) 25 rfl Tryd.underlying25 (by kernel_rfl) w.heap.size b off bs.length cp i _ _ (.slice (some ⟨w2.heap.size, q, none⟩) (8 - q) (8 - q)) bs (numB n m) rfl rfl (H1.out.same (((Upd.refl _ w2).alloc _).drew)) ((Bs.num8 w2 n 106 _ q m rfl HQ.out hm1 h5 h6).same (Upd.refl _ _).drew) (by rw [numB_length]; have := HL.out; omega) (by rw [numB_length]; exact HL.out) (by rw [numB_length]; exact hm1) ?_; intro w3 f3 u3 b3))
      all_goals
        rw [numB_length] at f3
        have F3 := Lib.hid f3
        clear f3
        go_wp2
        go_ret2
        exact ⟨_, rfl, by rw [E1.out, E2.out, E3.out]; exact F3.out, Same.into ((H2.out.alloc _).drew) u3 fun k e => by rw [e]; exact b3⟩
end Go.Proofs.YtmaofhiapkfoaaaDoor
