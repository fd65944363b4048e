/- Rows: what a slice of elements of 'sz' cells reads as (Rdr), what a slice of the call's own may be written at (Own), append on such a slice, whatever its place in its block. Plain laws: no program in sight. -/
import Derived.Test.YtmaofhiapkfoaaaDoorMem
import Derived.ArgAppend
import Derived.Laws.IdiomCopy
import Derived.Deep.DeepAppendWide
namespace Go.Proofs.YtmaofhiapkfoaaaDoor
open Go.RowKit
set_option linter.unusedVariables false
set_option linter.unusedSimpArgs false

/-- Cells behind an address. -/
def CellsAt (w : World) (b off : Nat) (cs : List Value) : Prop := ∀ j u, cs[j]? = some u → w.cell? ⟨b, off + j, none⟩ = some u
/-- v reads as elements of sz cells; all their cells, one behind the other, are cs. -/
def Rdr (w : World) (v : Value) (sz : Nat) (cs : List Value) : Prop :=
  ∃ A n cap, v = .slice A n cap ∧ cs.length = n * sz ∧ n ≤ cap ∧ cap ≤ 9223372036854775807 ∧ (cs = [] ∨ ∃ b off, A = some ⟨b, off, none⟩ ∧ CellsAt w b off cs)
/-- The cells from a place on are there and may be written. -/
def RoomAt (w : World) (b off k : Nat) : Prop := ∀ j, j < k → (w.cell? ⟨b, off + j, none⟩).isSome = true ∧ w.frozen? ⟨b, off + j, none⟩ = false
/-- v reads as cs, lies from block 'base' on, and may be written up to its capacity. -/
def Own (base : Nat) (w : World) (v : Value) (sz : Nat) (cs : List Value) : Prop :=
  ∃ A n cap, v = .slice A n cap ∧ cs.length = n * sz ∧ n ≤ cap ∧ cap ≤ 9223372036854775807 ∧ (cap = 0 ∨ ∃ b off, A = some ⟨b, off, none⟩ ∧ base ≤ b ∧ CellsAt w b off cs ∧ RoomAt w b off (cap * sz))
theorem Own.rdr {base : Nat} {w : World} {v : Value} {sz : Nat} {cs : List Value} (h : Own base w v sz cs) : Rdr w v sz cs := by
  obtain ⟨A, n, cap, rfl, h1, h2, h3, h4⟩ := h
  refine ⟨A, n, cap, rfl, h1, h2, h3, ?_⟩
  rcases h4 with rfl | ⟨b, off, rfl, hb, hc, hr⟩
  · have : n = 0 := by omega
    subst this
    exact .inl (List.eq_nil_of_length_eq_zero (by omega))
  · exact .inr ⟨b, off, rfl, hc⟩
theorem Own.nil (base : Nat) (w : World) (sz : Nat) : Own base w (.slice none 0 0) sz [] := ⟨none, 0, 0, rfl, by simp, by omega, by omega, .inl rfl⟩
theorem Rdr.nil (w : World) (sz : Nat) : Rdr w (.slice none 0 0) sz [] := (Own.nil 0 w sz).rdr
theorem CellsAt.upd {S : Nat → Prop} {w w' : World} {b off : Nat} {cs : List Value} (h : CellsAt w b off cs) (hu : Upd S w w') (hn : ¬ S b) : CellsAt w' b off cs := fun j u hj => hu.cell (h j u hj) hn
theorem RoomAt.lt {w : World} {b off k : Nat} (h : RoomAt w b off k) (hk : 0 < k) : b < w.heap.size := by
  have := (h 0 hk).1
  obtain ⟨u, hu⟩ := Option.isSome_iff_exists.1 this
  exact World.block_lt_of_cell? w _ hu
theorem RoomAt.upd {S : Nat → Prop} {w w' : World} {b off k : Nat} (h : RoomAt w b off k) (hu : Upd S w w') (hn : ¬ S b) : RoomAt w' b off k := by
  intro j hj
  have hb := h.lt (by omega)
  obtain ⟨h1, h2⟩ := h j hj
  obtain ⟨u, hu1⟩ := Option.isSome_iff_exists.1 h1
  refine ⟨?_, (hu.frozen (p := ⟨b, off + j, none⟩) hb hn).trans h2⟩
  rw [hu.cell hu1 hn]
  rfl
theorem Rdr.upd {S : Nat → Prop} {w w' : World} {v : Value} {sz : Nat} {cs : List Value} (h : Rdr w v sz cs) (hu : Upd S w w') (ho : Off S v) : Rdr w' v sz cs := by
  obtain ⟨A, n, cap, rfl, h1, h2, h3, h4⟩ := h
  refine ⟨A, n, cap, rfl, h1, h2, h3, ?_⟩
  rcases h4 with rfl | ⟨b, off, rfl, h4⟩
  · exact .inl rfl
  · by_cases hc : cap = 0
    · have : n = 0 := by omega
      subst this
      exact .inl (List.eq_nil_of_length_eq_zero (by omega))
    · exact .inr ⟨b, off, rfl, h4.upd hu (ho b (room_some _ _ _ _ hc))⟩
theorem Own.upd {base : Nat} {S : Nat → Prop} {w w' : World} {v : Value} {sz : Nat} {cs : List Value} (h : Own base w v sz cs) (hu : Upd S w w') (ho : Off S v) : Own base w' v sz cs := by
  obtain ⟨A, n, cap, rfl, h1, h2, h3, h4⟩ := h
  refine ⟨A, n, cap, rfl, h1, h2, h3, ?_⟩
  rcases h4 with rfl | ⟨b, off, rfl, hb, hc, hr⟩
  · exact .inl rfl
  · by_cases hc0 : cap = 0
    · exact .inl hc0
    · have hn := ho b (room_some _ _ _ _ hc0)
      exact .inr ⟨b, off, rfl, hb, hc.upd hu hn, hr.upd hu hn⟩
theorem Rdr.same {w w' : World} {v : Value} {sz : Nat} {cs : List Value} (h : Rdr w v sz cs) (hu : Same w w') : Rdr w' v sz cs := h.upd hu (Off.false v)
theorem Own.same {base : Nat} {w w' : World} {v : Value} {sz : Nat} {cs : List Value} (h : Own base w v sz cs) (hu : Same w w') : Own base w' v sz cs := h.upd hu (Off.false v)
theorem Own.mono {base base' : Nat} {w : World} {v : Value} {sz : Nat} {cs : List Value} (h : Own base w v sz cs) (hb : base' ≤ base) : Own base' w v sz cs := by
  obtain ⟨A, n, cap, rfl, h1, h2, h3, h4⟩ := h
  refine ⟨A, n, cap, rfl, h1, h2, h3, ?_⟩
  rcases h4 with rfl | ⟨b, off, rfl, hb', rest⟩
  · exact .inl rfl
  · exact .inr ⟨b, off, rfl, by omega, rest⟩
theorem Own.ge {base : Nat} {w : World} {v : Value} {sz : Nat} {cs : List Value} (h : Own base w v sz cs) (hs : 0 < sz) : ∀ k, room v = some k → base ≤ k ∧ k < w.heap.size := by
  obtain ⟨A, n, cap, rfl, h1, h2, h3, h4⟩ := h
  intro k hk
  rcases h4 with rfl | ⟨b, off, rfl, hb, hc, hr⟩
  · cases A <;> simp [room] at hk
  · by_cases hc0 : cap = 0
    · simp [room, hc0] at hk
    · rw [room_some _ _ _ _ hc0] at hk
      injection hk with hk
      subst hk
      exact ⟨hb, hr.lt (Nat.mul_pos (by omega) hs)⟩
/-- A row that a law on append or make left. -/
theorem Own.of_row {base : Nat} {w : World} {e : TypeId} {sz : Nat} {v : Value} {n : Nat} {cs : List Value} (h : w.ownsRow base e sz v n cs) : Own base w v sz cs ∧ ∃ A cap, v = .slice A n cap := by
  obtain ⟨h1, h2⟩ := h
  rcases h2 with ⟨rfl, rfl⟩ | ⟨g, cap, cur, rfl, hb, hg, h3, h4, h5, h6⟩
  · have : cs = [] := List.eq_nil_of_length_eq_zero (by omega)
    subst this
    exact ⟨Own.nil base w sz, none, 0, rfl⟩
  · refine ⟨⟨_, n, cap, rfl, h1, h3, by simpa [maxLen] using h4, .inr ⟨g, 0, rfl, hb, ?_, ?_⟩⟩, _, cap, rfl⟩
    · intro j u hj
      rw [Nat.zero_add, cell_of_row w g j cur e (0, 0) hg]
      rw [← h6, List.getElem?_take] at hj
      split at hj
      · simpa using hj
      · cases hj
    · intro j hj
      rw [Nat.zero_add, cell_of_row w g j cur e (0, 0) hg]
      exact ⟨by simp [h5, hj], by simp [World.frozen?, hg]⟩

/-- A new block, all its cells known. -/
theorem Own.lit (w : World) (C : Array Value) (t : TypeId) (cs : List Value) (g n cap sz base : Nat) (hg : g = w.heap.size) (hb : base ≤ g) (hC : ∀ (j : Nat) (u : Value), cs[j]? = some u → C[j]? = some u) (hn : cs.length = n * sz) (hc : n ≤ cap)
    (hm : cap ≤ 9223372036854775807) (hs : C.size = cap * sz) : Own base (w.alloc (.cells C t)) (.slice (some ⟨g, 0, none⟩) n cap) sz cs := by
  subst hg
  have h : (w.alloc (.cells C t)).heap[w.heap.size]? = some (.cells C t) := heap_alloc_new w _
  refine ⟨_, n, cap, rfl, hn, hc, hm, .inr ⟨_, 0, rfl, hb, ?_, ?_⟩⟩
  · intro j u hj
    rw [Nat.zero_add, cell_of_row _ _ j C t (0, 0) h]
    exact hC j u hj
  · intro j hj
    rw [Nat.zero_add, cell_of_row _ _ j C t (0, 0) h]
    refine ⟨by simp [hs, hj], ?_⟩
    unfold World.frozen?
    rw [h]
    simp
theorem setCells_size (b : Nat) : ∀ (vs : List Value) (o : Nat) (w : World), (w.setCells b o vs).heap.size = w.heap.size
  | [], _, _ => rfl
  | v :: r, o, w => by rw [World.setCells, setCells_size b r, World.size_setCell]
theorem setCells_upd (b : Nat) : ∀ (vs : List Value) (o : Nat) (w : World), Upd (fun k => k = b) w (w.setCells b o vs)
  | [], _, w => Upd.refl _ w
  | v :: r, o, w => by
    rw [World.setCells]
    exact Upd.trans ((Upd.refl (fun k => k = b) w).setCell (p := ⟨b, o, none⟩) (fun _ => rfl) v) (setCells_upd b r (o + 1) _) (fun _ _ h => h)

section
variable {P : Program}
/-- append(v, u...), v of the call's own, u whatever. -/
theorem run_append {t e : TypeId} {i : TypeInfo} {z : Value} {sz bytes : Nat} (ty : TypeId) (ht : P.underlying t = some (.slice e)) (hi : P.info? e = some i) (hz : i.zero = some z) (hsz : i.size = sz) (hby : i.bytes = bytes) (hzs : z.cells.size = sz) (hs0 : 0 < sz)
    {base : Nat} {w : World} {v u : Value} {xs ys : List Value} (hv : Own base w v sz xs) (hu : Rdr w u sz ys) (h1 : ∀ y ∈ ys, y.oneCell' = true) (hbase : base ≤ w.heap.size)
    (n m : Nat) (hn : xs.length = n * sz) (hm : ys.length = m * sz) (hb : ((n + m) + (n + m) / 4 + 192) * bytes ≤ 281474976710656) (hmax : n + m ≤ 9223372036854775807) :
    ∃ v' w', (Builtin.append_ #[t, t] ty #[v, u]).run P w = .ok v' w' ∧ Own base w' v' sz (xs ++ ys) ∧ Upd (fun k => room v = some k) w w' ∧ (∀ k, room v' = some k → room v = some k ∨ w.heap.size ≤ k) := by
  obtain ⟨A, n', cap, rfl, h2, h3, h4, h5⟩ := hv
  obtain ⟨B, m', c, rfl, k2, k3, k4, k5⟩ := hu
  have en : n' = n := Nat.eq_of_mul_eq_mul_right hs0 (by omega)
  have em : m' = m := Nat.eq_of_mul_eq_mul_right hs0 (by omega)
  subst en em
  -- what is appended, by cells
  have hrest : ∀ (w2 : World), w2.heap = w.heap → (Builtin.firstCells sz m' (.slice B m' c)).run P w2 = .ok ys.toArray w2 := by
    intro w2 hw
    rcases k5 with rfl | ⟨b, off, rfl, hc⟩
    · have : m' = 0 := by
        have h0 : m' * sz = 0 := k2.symm
        rcases Nat.mul_eq_zero.1 h0 with h0 | h0 <;> omega
      subst this
      rcases B with _ | a
      · exact run_firstCells_none w2 sz 0 0 c
      · exact run_firstCells_some w2 sz 0 a 0 c [] (by simp) (fun j v hj => by simp at hj)
    · refine run_firstCells_some w2 sz m' ⟨b, off, none⟩ m' c ys k2 (fun j v hj => ?_)
      rw [Addr.add_lit]
      have := hc j v hj
      unfold World.cell? at this ⊢
      rw [hw]
      exact this
  by_cases hroom : n' + m' ≤ cap
  · -- there is room
    by_cases hc0 : cap = 0
    · have e1 : n' = 0 := by omega
      have e2 : m' = 0 := by omega
      subst e1 e2 hc0
      have ex : xs = [] := List.eq_nil_of_length_eq_zero (by omega)
      have ey : ys = [] := List.eq_nil_of_length_eq_zero (by omega)
      subst ex ey
      have hf := hrest w rfl
      refine ⟨.slice A 0 0, w, ?_, ⟨A, 0, 0, rfl, by simp, by omega, by omega, .inl rfl⟩, Upd.refl _ w, fun k hk => .inl hk⟩
      cases A with
      | none => simp [Builtin.append_, run_underlying ht, sizeOf, typeInfo, hi, hsz, Builtin.lenOf, hf]
      | some a => simp [Builtin.append_, run_underlying ht, sizeOf, typeInfo, hi, hsz, Builtin.lenOf, hf, storeCells]
    · rcases h5 with h5 | ⟨b, off, rfl, hbb, hc, hr⟩
      · exact absurd h5 hc0
      · have hst := run_storeCells_cells (P := P) b (off + n' * sz) ys 0 w
          (fun j hj => by
            have := (hr (n' * sz + j) (by
              have : (n' + m') * sz ≤ cap * sz := Nat.mul_le_mul_right _ hroom
              rw [Nat.add_mul] at this
              omega)).1
            simpa [Nat.add_assoc] using this)
          (fun j hj => by
            have := (hr (n' * sz + j) (by
              have : (n' + m') * sz ≤ cap * sz := Nat.mul_le_mul_right _ hroom
              rw [Nat.add_mul] at this
              omega)).2
            simpa [Nat.add_assoc] using this) h1
        simp only [Nat.add_zero] at hst
        have hf := hrest w rfl
        have hin : ∀ j, j < ys.length → (w.cell? ⟨b, off + n' * sz + j, none⟩).isSome = true := fun j hj => by
          have := (hr (n' * sz + j) (by
            have : (n' + m') * sz ≤ cap * sz := Nat.mul_le_mul_right _ hroom
            rw [Nat.add_mul] at this
            omega)).1
          simpa [Nat.add_assoc] using this
        refine ⟨.slice (some ⟨b, off, none⟩) (n' + m') cap, w.setCells b (off + n' * sz) ys, ?_, ⟨_, _, cap, rfl, by rw [List.length_append, h2, k2, Nat.add_mul], hroom, h4, .inr ⟨b, off, rfl, hbb, ?_, ?_⟩⟩, ?_, ?_⟩
        · simp [Builtin.append_, run_underlying ht, sizeOf, typeInfo, hi, hsz, Builtin.lenOf, hroom, hf, Addr.add_lit, hst]
        · intro j u hj
          by_cases hlt : j < xs.length
          · rw [List.getElem?_append_left hlt] at hj
            rw [World.cell?_setCells_out b ys _ w ⟨b, off + j, none⟩ (fun _ _ => .inl (by simp; omega))]
            exact hc j u hj
          · rw [List.getElem?_append_right (by omega)] at hj
            have hj' : j - xs.length < ys.length := (List.getElem?_eq_some_iff.1 hj).1
            have := World.cell?_setCells_in b ys (off + n' * sz) w hin (j - xs.length) hj'
            rw [show off + j = off + n' * sz + (j - xs.length) by omega, this]
            rw [List.getElem?_eq_getElem hj'] at hj
            exact hj
        · intro j hj
          refine ⟨?_, by rw [World.frozen?_setCells]; exact (hr j hj).2⟩
          by_cases hb2 : off + n' * sz ≤ off + j ∧ off + j < off + n' * sz + ys.length
          · have := World.cell?_setCells_in b ys (off + n' * sz) w hin (j - n' * sz) (by omega)
            rw [show off + j = off + n' * sz + (j - n' * sz) by omega, this]
            rfl
          · rw [World.cell?_setCells_out b ys _ w ⟨b, off + j, none⟩ (fun _ _ => by simp; omega)]
            exact (hr j hj).1
        · exact (setCells_upd b ys _ w).mono fun k _ hk => by rw [hk, room_some _ _ _ _ hc0]
        · intro k hk
          rw [room_some _ _ _ _ (by omega)] at hk
          rw [room_some _ _ _ _ hc0]
          exact .inl hk
  · -- it grows
    have hg : cap < n' + m' := by omega
    have hge := grownCap_ge w (n' + m') cap e
    have hcm : grownCap w (n' + m') cap e ≤ maxLen := grownCap_le_maxLen w (n' + m') cap e (by simp only [maxLen]; omega)
    have hn' : ¬ (n' + m' ≤ cap) := by omega
    have h63' : ¬ (9223372036854775807 < ((n' : Int) + (m' : Int))) := by omega
    have hfit := growslice_fits_wide (bytes := bytes) hg hb
    have h48' : ¬ (281474976710656 < Builtin.nextslicecap (n' + m') cap * bytes) := by omega
    have hfo : (Builtin.firstCells sz n' (.slice A n' cap)).run P w.drew = .ok xs.toArray w.drew := by
      rcases h5 with rfl | ⟨b, off, rfl, hbb, hc, hr⟩
      · have e1 : n' = 0 := by omega
        subst e1
        have ex : xs = [] := List.eq_nil_of_length_eq_zero (by omega)
        subst ex
        rcases A with _ | a
        · exact run_firstCells_none w.drew sz 0 0 0
        · exact run_firstCells_some w.drew sz 0 a 0 0 [] (by simp) (fun j v hj => by simp at hj)
      · exact run_firstCells_some w.drew sz n' ⟨b, off, none⟩ n' cap xs h2 (fun j v hj => by rw [Addr.add_lit]; exact hc j v hj)
    have hf := hrest w.drew rfl
    have hlen : (xs ++ ys).length = (n' + m') * sz := by rw [List.length_append, h2, k2, Nat.add_mul]
    refine ⟨.slice (some ⟨w.heap.size, 0, none⟩) (n' + m') (grownCap w (n' + m') cap e), w.drew.alloc (.cells (xs.toArray ++ ys.toArray ++ Builtin.zeroCells z.cells (grownCap w (n' + m') cap e - (n' + m'))) e), ?_, ?_, ?_, ?_⟩
    · simp [Builtin.append_, run_underlying ht, sizeOf, typeInfo, zeroValue, hi, hz, hsz, hby, Builtin.lenOf, hn', h63', h48', Question.forced, hf, hfo, newRow, grownCap]
      rw [← Array.append_assoc]
      simp
    · refine (Own.of_row (e := e) ⟨hlen, .inr ⟨w.heap.size, _, _, rfl, hbase, heap_alloc_new w.drew _, hge, hcm, ?_, ?_⟩⟩).1
      · simp only [Array.size_append, List.size_toArray, size_zeroCells, hzs, h2, k2, ← Nat.add_mul]
        congr 1
        omega
      · simp only [Array.toList_append, List.append_assoc]
        rw [← List.append_assoc, ← hlen]
        exact List.take_left
    · exact ((Upd.refl _ w).drew).alloc _
    · intro k hk
      right
      by_cases hc0 : grownCap w (n' + m') cap e = 0
      · simp [room, hc0] at hk
      · rw [room_some _ _ _ _ hc0] at hk
        injection hk with hk
        omega

/-- append(v, u...) at its place in a walk. -/
theorem wpl_append {ops : Array Oper} {rest : List Oper} {o : Oper} {a : Act} {Q : Exit → Act → World → Prop} {w : World}
    (hg : o.guard = none) (s x : Operand) (t : TypeId) (hop : o.op = Op.call { callee := Callee.builtin Builtin.append, args := #[s, x], argTypes := #[t, t] })
    {e : TypeId} {i : TypeInfo} {z : Value} {sz bytes : Nat} (ht : P.underlying t = some (.slice e)) (hi : P.info? e = some i) (hz : i.zero = some z) (hsz : i.size = sz) (hby : i.bytes = bytes) (hzs : z.cells.size = sz) (hs0 : 0 < sz)
    {base : Nat} {xs ys : List Value} (hv : Own base w (a.eval s) sz xs) (hu : Rdr w (a.eval x) sz ys) (h1 : ∀ y ∈ ys, y.oneCell' = true) (hbase : base ≤ w.heap.size)
    (n m : Nat) (hn : xs.length = n * sz) (hm : ys.length = m * sz) (hb : ((n + m) + (n + m) / 4 + 192) * bytes ≤ 281474976710656) (hmax : n + m ≤ 9223372036854775807)
    (h : ∀ v' w', Own base w' v' sz (xs ++ ys) → Upd (fun k => room (a.eval s) = some k) w w' → (∀ k, room v' = some k → room (a.eval s) = some k ∨ w.heap.size ≤ k) → wpList P ops Q rest (a.put o.dst v') w') :
    wpList P ops Q (o :: rest) a w := by
  obtain ⟨v', w', hrun, r1, r2, r3⟩ := run_append (P := P) o.type ht hi hz hsz hby hzs hs0 hv hu h1 hbase n m hn hm hb hmax
  refine wpList_plain hg fun K hK' => ?_
  unfold Oper.wp
  simp [execOp, hop, resolve, invoke, builtin, hrun, Result.andThen]
  exact hK' _ _ (h v' w' r1 r2 r3)
end

/-! ### Bytes -/
/-- A byte as Go's number. -/
def B (b : UInt8) : Value := .int .u8 (b.toNat : Int)
theorem B_at (bs : List UInt8) (j : Nat) (h : j < bs.length) : (bs.map B)[j]? = some (.int .u8 (at8 bs j)) := by
  simp [B, at8, List.getD_eq_getElem?_getD, List.getElem?_eq_getElem h]
theorem B_get {bs : List UInt8} {j : Nat} {u : Value} (h : (bs.map B)[j]? = some u) : j < bs.length ∧ u = .int .u8 (at8 bs j) := by
  have hj : j < bs.length := by simpa using (List.getElem?_eq_some_iff.1 h).1
  exact ⟨hj, by rw [B_at bs j hj] at h; injection h with h; exact h.symm⟩
theorem B_one (bs : List UInt8) : ∀ y ∈ bs.map B, y.oneCell' = true := by
  intro y hy
  obtain ⟨b, _, rfl⟩ := List.mem_map.1 hy
  rfl
theorem Bs.rdr {w : World} {v : Value} {bs : List UInt8} (h : Bs w v bs) : Rdr w v 1 (bs.map B) := by
  obtain ⟨A, cap, rfl, h1, h2, h3⟩ := h
  refine ⟨A, bs.length, cap, rfl, by simp, h1, h2, ?_⟩
  rcases h3 with rfl | ⟨b, off, rfl, h3⟩
  · exact .inl rfl
  · refine .inr ⟨b, off, rfl, fun j u hj => ?_⟩
    obtain ⟨hj', rfl⟩ := B_get hj
    exact h3 j hj'
theorem Bs.of_rdr {w : World} {v : Value} {bs : List UInt8} (h : Rdr w v 1 (bs.map B)) : Bs w v bs := by
  obtain ⟨A, n, cap, rfl, h1, h2, h3, h4⟩ := h
  have hn : bs.length = n := by simpa using h1
  subst hn
  refine ⟨A, cap, rfl, h2, h3, ?_⟩
  rcases h4 with h4 | ⟨b, off, rfl, h4⟩
  · exact .inl (by simpa using h4)
  · exact .inr ⟨b, off, rfl, fun j hj => h4 j _ (B_at bs j hj)⟩
/-- A slice of new memory: it reads as bs, lies in a block from 'base' on, and all its room may be written. -/
def Fresh (base : Nat) (w : World) (v : Value) (bs : List UInt8) : Prop := Own base w v 1 (bs.map B)
theorem Fresh.bs {base : Nat} {w : World} {v : Value} {bs : List UInt8} (h : Fresh base w v bs) : Bs w v bs := Bs.of_rdr (Own.rdr h)
theorem Fresh.upd {base : Nat} {S : Nat → Prop} {w w' : World} {v : Value} {bs : List UInt8} (h : Fresh base w v bs) (hu : Upd S w w') (ho : Off S v) : Fresh base w' v bs := Own.upd h hu ho
theorem Fresh.same {base : Nat} {w w' : World} {v : Value} {bs : List UInt8} (h : Fresh base w v bs) (hu : Same w w') : Fresh base w' v bs := Own.same h hu
theorem Fresh.mono {base base' : Nat} {w : World} {v : Value} {bs : List UInt8} (h : Fresh base w v bs) (hb : base' ≤ base) : Fresh base' w v bs := Own.mono h hb
theorem Fresh.ge {base : Nat} {w : World} {v : Value} {bs : List UInt8} (h : Fresh base w v bs) : ∀ k, room v = some k → base ≤ k ∧ k < w.heap.size := Own.ge h (by decide)
theorem Fresh.nil (base : Nat) (w : World) : Fresh base w (.slice none 0 0) [] := Own.nil base w 1
/-- It lies in no block of S, since those are all below it. -/
theorem Fresh.off {base : Nat} {S : Nat → Prop} {w : World} {v : Value} {bs : List UInt8} (h : Fresh base w v bs) (hS : ∀ k, base ≤ k → ¬ S k) : Off S v := fun k hk => hS k (h.ge k hk).1

/-- Are two lists of bytes alike? (A Bool that the walk does not look into.) -/
def eqB (xs ys : List UInt8) : Bool := decide (xs = ys)
@[go_sem] theorem eqB_self (xs : List UInt8) : eqB xs xs = true := by simp [eqB]
theorem eqB_true {xs ys : List UInt8} (h : xs = ys) : eqB xs ys = true := by simp [eqB, h]
theorem eqB_false {xs ys : List UInt8} (h : xs ≠ ys) : eqB xs ys = false := by simp [eqB, h]
theorem addr_ne (b off : Nat) {k j : Nat} (h : k ≠ j) : (⟨b, off + k, none⟩ : Addr) ≠ ⟨b, off + j, none⟩ := by
  intro e
  injection e with _ e
  omega
/-- Where byte k of a row of the call's own lies; it may be written. -/
theorem Fresh.at_ {base : Nat} {w : World} {b off n cap : Nat} {xs : List UInt8} (h : Fresh base w (.slice (some ⟨b, off, none⟩) n cap) xs) (k : Nat) (hk : k < xs.length) :
    w.cell? ⟨b, off + k, none⟩ = some (.int .u8 (at8 xs k)) ∧ w.frozen? ⟨b, off + k, none⟩ = false := by
  obtain ⟨A, n', cap', e, h1, h2, h3, h4⟩ := h
  injection e with e1 e2 e3
  subst e2 e3
  have hn : xs.length = n := by simpa using h1
  rcases h4 with h4 | ⟨b', off', e1', hb, hc, hr⟩
  · omega
  · rw [e1'] at e1
    injection e1 with e1
    injection e1 with e1 e4
    subst e1 e4
    exact ⟨hc k _ (B_at xs k hk), (hr k (by omega)).2⟩
theorem Fresh.addr {base : Nat} {w : World} {A : Option Addr} {n cap : Nat} {xs : List UInt8} (h : Fresh base w (.slice A n cap) xs) (h0 : 0 < cap) : ∃ b off, A = some ⟨b, off, none⟩ := by
  obtain ⟨A', n', cap', e, h1, h2, h3, h4⟩ := h
  injection e with e1 e2 e3
  subst e1
  rcases h4 with h4 | ⟨b', off', e1', _⟩
  · omega
  · exact ⟨b', off', e1'⟩
/-- A byte of a row of the call's own is written. -/
theorem Fresh.set {base : Nat} {w : World} {b off n cap : Nat} {xs : List UInt8} (h : Fresh base w (.slice (some ⟨b, off, none⟩) n cap) xs) (k : Nat) (hk : k < xs.length) (c : UInt8) (x : Int) (hx : x = at8 [c] 0) :
    Fresh base (w.setCell ⟨b, off + k, none⟩ (.int .u8 x)) (.slice (some ⟨b, off, none⟩) n cap) (xs.set k c) ∧ Upd (fun i => i = b) w (w.setCell ⟨b, off + k, none⟩ (.int .u8 x)) ∧ base ≤ b := by
  subst hx
  obtain ⟨A, n', cap', e, h1, h2, h3, h4⟩ := h
  injection e with e1 e2 e3
  subst e2 e3
  have hn : xs.length = n := by simpa using h1
  rcases h4 with h4 | ⟨b', off', e1', hb, hc, hr⟩
  · omega
  · rw [e1'] at e1
    injection e1 with e1
    injection e1 with e1 e4
    subst e1 e4
    refine ⟨⟨_, n, cap, rfl, by simpa using h1, h2, h3, .inr ⟨b, off, rfl, hb, ?_, ?_⟩⟩, (Upd.refl (fun i => i = b) w).setCell (p := ⟨b, off + k, none⟩) (fun _ => rfl) _, hb⟩
    · intro j u hj
      obtain ⟨hj', rfl⟩ := B_get hj
      rw [List.length_set] at hj'
      by_cases hjk : j = k
      · subst hjk
        rw [World.cell?_setCell_same _ _ _ (hc j _ (B_at xs j hk))]
        simp [at8, List.getD_eq_getElem?_getD, hk]
      · rw [World.cell?_setCell_other _ _ _ _ (addr_ne b off (Ne.symm hjk)), hc j _ (B_at xs j hj')]
        simp [at8, List.getD_eq_getElem?_getD, List.getElem?_set, Ne.symm hjk]
    · intro j hj
      rw [World.frozen?_setCell]
      refine ⟨?_, (hr j hj).2⟩
      by_cases hjk : j = k
      · subst hjk
        rw [World.cell?_setCell_same _ _ _ (hc j _ (B_at xs j hk))]
        rfl
      · rw [World.cell?_setCell_other _ _ _ _ (addr_ne b off (Ne.symm hjk))]
        exact (hr j hj).1
theorem strB_toList (bs : List UInt8) : (strB bs).toList = bs := ByteArray.toList_mk bs
@[go_sem] theorem strB_eq (xs ys : List UInt8) : ((strB xs).toList == (strB ys).toList) = eqB xs ys := by
  rw [strB_toList, strB_toList]
  unfold eqB
  rw [Bool.eq_iff_iff]
  simp
theorem at8_one (c : Int) (h0 : 0 ≤ c) (h1 : c ≤ 255) : at8 [UInt8.ofNat c.toNat] 0 = c := by
  unfold at8
  simp
  omega
/-- The box of one byte that is appended. -/
theorem Bs.one (W : World) (c : Int) (t : TypeId) (g : Nat) (hg : g = W.heap.size) (h0 : 0 ≤ c) (h1 : c ≤ 255) : Bs (W.alloc (.cells #[.int .u8 c] t)) (.slice (some ⟨g, 0, none⟩) 1 1) [UInt8.ofNat c.toNat] :=
  Bs.lit W _ t (0, 0) _ g 1 1 hg (fun j hj => by
    have : j = 0 := by simpa using hj
    subst this
    rw [at8_one c h0 h1]
    rfl) rfl (by decide) (by decide)

section
variable {P : Program}
/-- append(v, u...), bytes. -/
theorem wpl_append_bytes {ops : Array Oper} {rest : List Oper} {o : Oper} {a : Act} {Q : Exit → Act → World → Prop} {w : World}
    (hg : o.guard = none) (s x : Operand) (t : TypeId) (hop : o.op = Op.call { callee := Callee.builtin Builtin.append, args := #[s, x], argTypes := #[t, t] })
    {e : TypeId} (ht : P.underlying t = some (.slice e)) (hinfo : (P.info? e).map (fun i => (i.zero, i.size, i.bytes)) = some (some (.int .u8 0), 1, 1))
    (base : Nat) (v u : Value) (xs ys zs : List UInt8) (hzs : xs ++ ys = zs) (hvs : a.eval s = v) (hux : a.eval x = u)
    (hv : Fresh base w v xs) (hu : Bs w u ys) (hbase : base ≤ w.heap.size) (hb : xs.length + ys.length ≤ 200000000000000)
    (h : ∀ v' w', Fresh base w' v' zs → Upd (fun k => room v = some k) w w' → (∀ k, room v' = some k → room v = some k ∨ w.heap.size ≤ k) → wpList P ops Q rest (a.put o.dst v') w') :
    wpList P ops Q (o :: rest) a w := by
  subst hvs
  subst hux
  subst hzs
  obtain ⟨i, hi, hzz⟩ := Option.map_eq_some_iff.1 hinfo
  simp only [Prod.mk.injEq] at hzz
  obtain ⟨hz0, hz1, hz2⟩ := hzz
  refine wpl_append (P := P) hg s x t hop ht hi hz0 hz1 hz2 rfl (by decide) hv hu.rdr (B_one ys) hbase xs.length ys.length (by simp) (by simp) (by omega) (by omega) ?_
  intro v' w' r1 r2 r3
  exact h v' w' (by unfold Fresh; rw [List.map_append]; exact r1) r2 r3
/-- append(v, u...), bytes, as one step of a region that draws its order. -/
theorem step_append_bytes {ops : Array Oper} {o : Oper} {a : Act} {w : World} {K : Act → World → Prop} {Q : Exit → Act → World → Prop} {E : Prop}
    (hg : o.guard = none) (s x : Operand) (t : TypeId) (hop : o.op = Op.call { callee := Callee.builtin Builtin.append, args := #[s, x], argTypes := #[t, t] })
    {e : TypeId} (ht : P.underlying t = some (.slice e)) (hinfo : (P.info? e).map (fun i => (i.zero, i.size, i.bytes)) = some (some (.int .u8 0), 1, 1))
    (base : Nat) (v u : Value) (xs ys zs : List UInt8) (hzs : xs ++ ys = zs) (hvs : a.eval s = v) (hux : a.eval x = u)
    (hv : Fresh base w v xs) (hu : Bs w u ys) (hbase : base ≤ w.heap.size) (hb : xs.length + ys.length ≤ 200000000000000)
    (h : ∀ v' w', Fresh base w' v' zs → Upd (fun k => room v = some k) w w' → (∀ k, room v' = some k → room v = some k ∨ w.heap.size ≤ k) → K (a.put o.dst v') w') :
    if Region.wanted o (yielded ops a.tmps) = true then Oper.wp P o a w K Q else E := by
  have hw : Region.wanted o (yielded ops a.tmps) = true := by simp [Region.wanted, hg]
  rw [if_pos hw]
  obtain ⟨i, hi, hzz⟩ := Option.map_eq_some_iff.1 hinfo
  simp only [Prod.mk.injEq] at hzz
  obtain ⟨hz0, hz1, hz2⟩ := hzz
  subst hvs
  subst hux
  subst hzs
  obtain ⟨v', w', hrun, r1, r2, r3⟩ := run_append (P := P) o.type ht hi hz0 hz1 hz2 rfl (by decide) hv hu.rdr (B_one ys) hbase xs.length ys.length (by simp) (by simp) (by omega) (by omega)
  unfold Oper.wp
  simp [execOp, hop, resolve, invoke, builtin, hrun, Result.andThen]
  exact h v' w' (by unfold Fresh; rw [List.map_append]; exact r1) r2 r3
end
/-- Writes into a row of the call's own leave what was there when the call began. -/
theorem Same.row {w w2 w3 : World} {v : Value} {xs : List UInt8} (hs : Same w w2) (hf : Fresh w.heap.size w2 v xs) (hu : Upd (fun k => room v = some k) w2 w3) : Same w w3 :=
  ⟨hu.os.trans hs.os, hu.tape.trans hs.tape, hu.output.trans hs.output, Nat.le_trans hs.size hu.size,
    fun k hk _ => (hu.block k (Nat.lt_of_lt_of_le hk hs.size) fun e => by have := (hf.ge k e).1; omega).trans (hs.block k hk id)⟩
/-- Writes into blocks of the call's own leave what was there when the call began. -/
theorem Same.into {S : Nat → Prop} {w w2 w3 : World} (hs : Same w w2) (hu : Upd S w2 w3) (hS : ∀ k, S k → w.heap.size ≤ k) : Same w w3 :=
  ⟨hu.os.trans hs.os, hu.tape.trans hs.tape, hu.output.trans hs.output, Nat.le_trans hs.size hu.size,
    fun k hk _ => (hu.block k (Nat.lt_of_lt_of_le hk hs.size) fun e => by have := hS k e; omega).trans (hs.block k hk id)⟩
end Go.Proofs.YtmaofhiapkfoaaaDoor
