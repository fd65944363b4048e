/- Rows of the call's own: fronts, backs, appends in place, clear. -/
import Derived.Test.YtppphelihimidaaStepA
import Derived.Test.YtppphelihimidaaFoot
import Derived.Deep.RegionLaw
namespace Go.Proofs.Ytppphelihimidaa
open Go.RowKit
set_option linter.unusedVariables false
set_option linter.unusedSimpArgs false

/-- The first k elements of a row of the call's own. -/
theorem Own.front {base : Nat} {w : World} {A : Option Addr} {n cap sz : Nat} {cs : List Value} (h : Own base w (.slice A n cap) sz cs) (k : Nat) (hk : k ≤ n) : Own base w (.slice A k cap) sz (cs.take (k * sz)) := by
  obtain ⟨A', n', cap', e, h1, h2, h3, h4⟩ := h
  injection e with e1 e2 e3
  subst e1 e2 e3
  refine ⟨_, k, cap, rfl, ?_, by omega, h3, ?_⟩
  · rw [List.length_take, h1]
    have : k * sz ≤ n * sz := Nat.mul_le_mul_right _ hk
    omega
  · rcases h4 with h4 | ⟨b, off, e1, hb, hc, hr⟩
    · exact .inl h4
    · refine .inr ⟨b, off, e1, hb, fun j u hj => hc j u ?_, hr⟩
      rw [List.getElem?_take] at hj
      split at hj
      · exact hj
      · cases hj
/-- A row's elements from number k on. -/
theorem Rdr.back {w : World} {A : Option Addr} {n cap sz : Nat} {cs : List Value} (h : Rdr w (.slice A n cap) sz cs) (k : Nat) (hk : k ≤ n) :
    Rdr w (.slice (if cap = k then A else A.map (·.add (k * sz))) (n - k) (cap - k)) sz (cs.drop (k * sz)) := by
  obtain ⟨A', n', cap', e, h1, h2, h3, h4⟩ := h
  injection e with e1 e2 e3
  subst e1 e2 e3
  refine ⟨_, _, _, rfl, ?_, by omega, by omega, ?_⟩
  · rw [List.length_drop, h1, Nat.sub_mul]
  · rcases h4 with rfl | ⟨b, off, rfl, hc⟩
    · exact .inl (by simp)
    · by_cases hck : cap = k
      · left
        apply List.drop_eq_nil_of_le
        rw [h1]
        exact Nat.mul_le_mul_right _ (by omega)
      · rw [if_neg hck]
        simp only [Option.map_some, Addr.add_lit]
        refine .inr ⟨b, off + k * sz, rfl, fun j u hj => ?_⟩
        rw [List.getElem?_drop] at hj
        rw [Nat.add_assoc]
        exact hc _ u hj
section
variable {P : Program}
/-- clear of a row of cells that may be written: zeros are stored. -/
theorem run_clear {t e : TypeId} {i : TypeInfo} {z : Value} (ty : TypeId) (ht : P.underlying t = some (.slice e)) (hi : P.info? e = some i) (hz : i.zero = some z) (w : World) (b off n cap : Nat) (hn : n ≠ 0)
    (hc : ∀ j, j < (Builtin.zeroCells z.cells n).toList.length → (w.cell? ⟨b, off + j, none⟩).isSome = true) (hf : ∀ j, j < (Builtin.zeroCells z.cells n).toList.length → w.frozen? ⟨b, off + j, none⟩ = false) (h1 : ∀ y ∈ (Builtin.zeroCells z.cells n).toList, y.oneCell' = true) :
    (Builtin.clear_ #[t] ty #[.slice (some ⟨b, off, none⟩) n cap]).run P w = .ok (.tuple #[]) (w.setCells b off (Builtin.zeroCells z.cells n).toList) := by
  have hst := run_storeCells_cells (P := P) b off (Builtin.zeroCells z.cells n).toList 0 w (fun j hj => by simpa using hc j hj) (fun j hj => by simpa using hf j hj) h1
  simp only [Nat.add_zero] at hst
  simp [Builtin.clear_, run_underlying ht, zeroValue, typeInfo, hi, hz, hn, hst]
/-- append(v, u...) where it fits: in place. -/
theorem run_append_fit {t e : TypeId} {i : TypeInfo} {z : Value} {sz : Nat} (ty : TypeId) (ht : P.underlying t = some (.slice e)) (hi : P.info? e = some i) (hsz : i.size = sz) (hs0 : 0 < sz)
    {base : Nat} {w : World} {b off n cap : Nat} {u : Value} {xs ys : List Value} (hv : Own base w (.slice (some ⟨b, off, none⟩) n cap) sz xs) (hu : Rdr w u sz ys) (h1 : ∀ y ∈ ys, y.oneCell' = true)
    (m : Nat) (hm : ys.length = m * sz) (hroom : n + m ≤ cap) (hc0 : cap ≠ 0) :
    ∃ w', (Builtin.append_ #[t, t] ty #[.slice (some ⟨b, off, none⟩) n cap, u]).run P w = .ok (.slice (some ⟨b, off, none⟩) (n + m) cap) w' ∧ Own base w' (.slice (some ⟨b, off, none⟩) (n + m) cap) sz (xs ++ ys) ∧ Upd (fun k => k = b) w w' := by
  obtain ⟨A', n', cap', e0, h2, h3, h4, h5⟩ := hv
  injection e0 with e1 e2 e3
  subst e2 e3
  obtain ⟨B, m', c, rfl, k2, k3, k4, k5⟩ := hu
  have em : m' = m := Nat.eq_of_mul_eq_mul_right hs0 (by omega)
  subst em
  have hf : (Builtin.firstCells sz m' (.slice B m' c)).run P w = .ok ys.toArray w := by
    rcases k5 with rfl | ⟨b', off', rfl, hc⟩
    · have : m' = 0 := by
        have h0 : m' * sz = 0 := k2.symm
        rcases Nat.mul_eq_zero.1 h0 with h0 | h0 <;> omega
      subst this
      rcases B with _ | a
      · exact run_firstCells_none w sz 0 0 c
      · exact run_firstCells_some w sz 0 a 0 c [] (by simp) (fun j v hj => by simp at hj)
    · refine run_firstCells_some w sz m' ⟨b', off', none⟩ m' c ys k2 (fun j v hj => ?_)
      rw [Addr.add_lit]
      exact hc j v hj
  rcases h5 with h5 | ⟨b', off', e4, hbb, hc, hr⟩
  · exact absurd h5 hc0
  · rw [e4] at e1
    injection e1 with e1
    injection e1 with e1 e5
    subst e1 e5
    have hin : ∀ j, j < ys.length → n * sz + j < cap * sz := fun j hj => by
      have : (n + m') * sz ≤ cap * sz := Nat.mul_le_mul_right _ hroom
      rw [Nat.add_mul] at this
      omega
    have hst := run_storeCells_cells (P := P) b (off + n * sz) ys 0 w
      (fun j hj => by have := (hr (n * sz + j) (hin j hj)).1; simpa [Nat.add_assoc] using this)
      (fun j hj => by have := (hr (n * sz + j) (hin j hj)).2; simpa [Nat.add_assoc] using this) h1
    simp only [Nat.add_zero] at hst
    have hin2 : ∀ j, j < ys.length → (w.cell? ⟨b, off + n * sz + j, none⟩).isSome = true := fun j hj => by
      have := (hr (n * sz + j) (hin j hj)).1
      simpa [Nat.add_assoc] using this
    refine ⟨w.setCells b (off + n * sz) ys, ?_, ⟨_, _, cap, rfl, by rw [List.length_append, h2, k2, Nat.add_mul], hroom, h4, .inr ⟨b, off, rfl, hbb, ?_, ?_⟩⟩, setCells_upd b ys _ w⟩
    · simp [Builtin.append_, run_underlying ht, sizeOf, typeInfo, hi, hsz, Builtin.lenOf, hroom, hf, Addr.add_lit, hst]
    · intro j u hj
      by_cases hlt : j < xs.length
      · rw [List.getElem?_append_left hlt] at hj
        rw [World.cell?_setCells_out b ys _ w ⟨b, off + j, none⟩ (fun _ _ => .inl (by simp; omega))]
        exact hc j u hj
      · rw [List.getElem?_append_right (by omega)] at hj
        have hj' : j - xs.length < ys.length := (List.getElem?_eq_some_iff.1 hj).1
        have := World.cell?_setCells_in b ys (off + n * sz) w hin2 (j - xs.length) hj'
        rw [show off + j = off + n * sz + (j - xs.length) by omega, this]
        rw [List.getElem?_eq_getElem hj'] at hj
        exact hj
    · intro j hj
      refine ⟨?_, by rw [World.frozen?_setCells]; exact (hr j hj).2⟩
      by_cases hb2 : off + n * sz ≤ off + j ∧ off + j < off + n * sz + ys.length
      · have := World.cell?_setCells_in b ys (off + n * sz) w hin2 (j - n * sz) (by omega)
        rw [show off + j = off + n * sz + (j - n * sz) by omega, this]
        rfl
      · rw [World.cell?_setCells_out b ys _ w ⟨b, off + j, none⟩ (fun _ _ => by simp; omega)]
        exact (hr j hj).1
/-- The same as one step of a region that draws its order. -/
theorem step_append_fit {ops : Array Oper} {o : Oper} {a : Act} {w : World} {K : Act → World → Prop} {Q : Exit → Act → World → Prop} {E : Prop}
    (hg : o.guard = none) (s x : Operand) (t : TypeId) (hop : o.op = Op.call { callee := Callee.builtin Builtin.append, args := #[s, x], argTypes := #[t, t] })
    {e : TypeId} {z : Value} {sz bytes : Nat} (ht : P.underlying t = some (.slice e)) (hinfo : (P.info? e).map (fun i => (i.zero, i.size, i.bytes)) = some (some z, sz, bytes)) (hs0 : 0 < sz)
    {base b off n cap : Nat} (u : Value) {xs ys : List Value} (hvs : a.eval s = .slice (some ⟨b, off, none⟩) n cap) (hux : a.eval x = u)
    (hv : Own base w (.slice (some ⟨b, off, none⟩) n cap) sz xs) (hu : Rdr w u sz ys) (h1 : ∀ y ∈ ys, y.oneCell' = true)
    (m : Nat) (hm : ys.length = m * sz) (hroom : n + m ≤ cap) (hc0 : cap ≠ 0)
    (h : ∀ w', Own base w' (.slice (some ⟨b, off, none⟩) (n + m) cap) sz (xs ++ ys) → Upd (fun k => k = b) w w' → K (a.put o.dst (.slice (some ⟨b, off, none⟩) (n + m) cap)) w') :
    if Region.wanted o (yielded ops a.tmps) = true then Oper.wp P o a w K Q else E := by
  have hw : Region.wanted o (yielded ops a.tmps) = true := by simp [Region.wanted, hg]
  rw [if_pos hw]
  obtain ⟨i, hi, hzz⟩ := Option.map_eq_some_iff.1 hinfo
  simp only [Prod.mk.injEq] at hzz
  obtain ⟨hz0, hz1, hz2⟩ := hzz
  subst hux
  obtain ⟨w', hrun, r1, r2⟩ := run_append_fit (P := P) (z := z) o.type ht hi hz1 hs0 hv hu h1 m hm hroom hc0
  unfold Oper.wp
  simp [execOp, hop, resolve, invoke, builtin, hvs, hrun, Result.andThen]
  exact h w' r1 r2
/-- Zeros behind the elements of a row of the call's own. -/
theorem Own.wipe {base : Nat} {w : World} {b off n cap sz : Nat} {cs zs : List Value} (h : Own base w (.slice (some ⟨b, off, none⟩) n cap) sz cs) (m : Nat) (hm : n ≤ m) (hz : m * sz + zs.length ≤ cap * sz) (hc0 : cap ≠ 0) :
    Own base (w.setCells b (off + m * sz) zs) (.slice (some ⟨b, off, none⟩) n cap) sz cs := by
  obtain ⟨A', n', cap', e0, h2, h3, h4, h5⟩ := h
  injection e0 with e1 e2 e3
  subst e2 e3
  rcases h5 with h5 | ⟨b', off', e4, hbb, hc, hr⟩
  · exact absurd h5 hc0
  · rw [e4] at e1
    injection e1 with e1
    injection e1 with e1 e5
    subst e1 e5
    have hnm : n * sz ≤ m * sz := Nat.mul_le_mul_right _ hm
    have hin2 : ∀ j, j < zs.length → (w.cell? ⟨b, off + m * sz + j, none⟩).isSome = true := fun j hj => by
      have := (hr (m * sz + j) (by omega)).1
      simpa [Nat.add_assoc] using this
    refine ⟨_, n, cap, rfl, h2, h3, h4, .inr ⟨b, off, rfl, hbb, ?_, ?_⟩⟩
    · intro j u hj
      have hjl := (List.getElem?_eq_some_iff.1 hj).1
      rw [World.cell?_setCells_out b zs _ w ⟨b, off + j, none⟩ (fun _ _ => .inl (by simp; omega))]
      exact hc j u hj
    · intro j hj
      refine ⟨?_, by rw [World.frozen?_setCells]; exact (hr j hj).2⟩
      by_cases hb2 : off + m * sz ≤ off + j ∧ off + j < off + m * sz + zs.length
      · have := World.cell?_setCells_in b zs (off + m * sz) w hin2 (j - m * sz) (by omega)
        rw [show off + j = off + m * sz + (j - m * sz) by omega, this]
        rfl
      · rw [World.cell?_setCells_out b zs _ w ⟨b, off + j, none⟩ (fun _ _ => by simp; omega)]
        exact (hr j hj).1
/-- clear(v[m:m + k]) of a row of the call's own, at its place in a walk. -/
theorem wpl_clear {ops : Array Oper} {rest : List Oper} {o : Oper} {a : Act} {Q : Exit → Act → World → Prop} {w : World}
    (hg : o.guard = none) (x : Operand) (t : TypeId) (hop : o.op = Op.call { callee := Callee.builtin Builtin.clear, args := #[x], argTypes := #[t] })
    {e : TypeId} {z : Value} {sz bytes : Nat} (ht : P.underlying t = some (.slice e)) (hinfo : (P.info? e).map (fun i => (i.zero, i.size, i.bytes)) = some (some z, sz, bytes)) (hzs : z.cells.size = sz)
    (hz1 : ∀ k, ∀ y ∈ (Builtin.zeroCells z.cells k).toList, y.oneCell' = true)
    {base b off n cap : Nat} {cs : List Value} (m k kc : Nat) (hux : a.eval x = .slice (some ⟨b, off + m * sz, none⟩) k kc)
    (hv : Own base w (.slice (some ⟨b, off, none⟩) n cap) sz cs) (hm : n ≤ m) (hk : m + k ≤ cap) (hk0 : k ≠ 0)
    (h : ∀ w', Own base w' (.slice (some ⟨b, off, none⟩) n cap) sz cs → Upd (fun k => k = b) w w' → wpList P ops Q rest (a.put o.dst (.tuple #[])) w') :
    wpList P ops Q (o :: rest) a w := by
  obtain ⟨i, hi, hzz⟩ := Option.map_eq_some_iff.1 hinfo
  simp only [Prod.mk.injEq] at hzz
  obtain ⟨hz0, _, _⟩ := hzz
  have hcap : cap ≠ 0 := by omega
  have hlen : (Builtin.zeroCells z.cells k).toList.length = k * sz := by simp [size_zeroCells, hzs]
  have hmk : m * sz + k * sz ≤ cap * sz := by rw [← Nat.add_mul]; exact Nat.mul_le_mul_right _ hk
  have hroom : RoomAt w b off (cap * sz) := by
    obtain ⟨A', n', cap', e0, h2, h3, h4, h5⟩ := hv
    injection e0 with e1 e2 e3
    subst e2 e3
    rcases h5 with h5 | ⟨b', off', e4, hbb, hc, hr⟩
    · exact absurd h5 hcap
    · rw [e4] at e1
      injection e1 with e1
      injection e1 with e1 e5
      subst e1 e5
      exact hr
  have hrun := run_clear (P := P) o.type ht hi hz0 w b (off + m * sz) k kc hk0
    (fun j hj => by rw [hlen] at hj; have := (hroom (m * sz + j) (by omega)).1; simpa [Nat.add_assoc] using this)
    (fun j hj => by rw [hlen] at hj; have := (hroom (m * sz + j) (by omega)).2; simpa [Nat.add_assoc] using this) (hz1 k)
  refine wpList_plain hg fun K hK' => ?_
  unfold Oper.wp
  simp [execOp, hop, resolve, invoke, builtin, hux, hrun, Result.andThen]
  exact hK' _ _ (h _ (Own.wipe hv m hm (by rw [hlen]; exact hmk) hcap) ((setCells_upd b _ _ w).mono fun k _ hk => hk))
end
/-! ### Rows of elements -/
section
variable {α : Type} {c : α → List Value} {sz : Nat}
theorem flat_length (hc : ∀ x, (c x).length = sz) (ls : List α) : (ls.flatMap c).length = ls.length * sz := by
  induction ls with
  | nil => simp
  | cons h t ih => rw [List.flatMap_cons, List.length_append, ih, hc, List.length_cons, Nat.add_mul]; omega
theorem flat_take (hc : ∀ x, (c x).length = sz) (ls : List α) (k : Nat) : (ls.flatMap c).take (k * sz) = (ls.take k).flatMap c := by
  induction ls generalizing k with
  | nil => simp
  | cons h t ih =>
    cases k with
    | zero => simp
    | succ k =>
      rw [List.flatMap_cons, List.take_succ_cons, List.flatMap_cons, show (k + 1) * sz = (c h).length + k * sz by rw [hc, Nat.add_mul]; omega, List.take_length_add_append, ih]
theorem flat_drop (hc : ∀ x, (c x).length = sz) (ls : List α) (k : Nat) : (ls.flatMap c).drop (k * sz) = (ls.drop k).flatMap c := by
  induction ls generalizing k with
  | nil => simp
  | cons h t ih =>
    cases k with
    | zero => simp
    | succ k =>
      rw [List.flatMap_cons, List.drop_succ_cons, show (k + 1) * sz = (c h).length + k * sz by rw [hc, Nat.add_mul]; omega, List.drop_length_add_append, ih]
theorem flat_get (hc : ∀ x, (c x).length = sz) (ls : List α) (k : Nat) (hk : k < ls.length) (j : Nat) (hj : j < sz) : (ls.flatMap c)[k * sz + j]? = (c (ls[k]'hk))[j]? := by
  have h1 : (ls.flatMap c)[k * sz + j]? = ((ls.flatMap c).drop (k * sz))[j]? := by rw [List.getElem?_drop]
  rw [h1, flat_drop hc, List.drop_eq_getElem_cons hk, List.flatMap_cons, List.getElem?_append_left (by rw [hc]; exact hj)]
theorem flat_one (h1 : ∀ x, ∀ y ∈ c x, y.oneCell' = true) (ls : List α) : ∀ y ∈ ls.flatMap c, y.oneCell' = true := by
  intro y hy
  obtain ⟨x, _, hx⟩ := List.mem_flatMap.1 hy
  exact h1 x y hx
end
theorem Rdr.length' {w : World} {A : Option Addr} {n cap sz : Nat} {cs : List Value} (h : Rdr w (.slice A n cap) sz cs) : cs.length = n * sz := by
  obtain ⟨A', n', cap', e, h1, h2, h3, h4⟩ := h
  injection e with e1 e2 e3
  subst e2
  exact h1
theorem Rdr.opens {w : World} {v : Value} {sz : Nat} {cs : List Value} (h : Rdr w v sz cs) : ∃ A n cap, v = .slice A n cap ∧ cs.length = n * sz ∧ n ≤ cap ∧ cap ≤ 9223372036854775807 := by
  obtain ⟨A, n, cap, rfl, h1, h2, h3, h4⟩ := h
  exact ⟨A, n, cap, rfl, h1, h2, h3⟩
/-- Where element k's cells lie. -/
theorem Rdr.elem {α : Type} {c : α → List Value} {sz : Nat} (hc : ∀ x, (c x).length = sz) (hs : 0 < sz) {w : World} {A : Option Addr} {n cap : Nat} {ls : List α} (h : Rdr w (.slice A n cap) sz (ls.flatMap c)) (k : Nat) (hk : k < ls.length) :
    ∃ b off, A = some (⟨b, off, none⟩ : Addr) ∧ ∀ j u, j < sz → (c (ls[k]'hk))[j]? = some u → w.cell? ⟨b, off + k * sz + j, none⟩ = some u := by
  obtain ⟨A', n', cap', e, h1, h2, h3, h4⟩ := h
  injection e with e1 e2 e3
  subst e1
  rcases h4 with h4 | ⟨b, off, rfl, h4⟩
  · have := flat_length hc ls
    rw [h4] at this
    have h5 : 0 < ls.length * sz := Nat.mul_pos (by omega) hs
    simp only [List.length_nil] at this
    omega
  · refine ⟨b, off, rfl, fun j u hj hu => ?_⟩
    rw [Nat.add_assoc]
    exact h4 _ u (by rw [flat_get hc ls k hk j hj]; exact hu)
end Go.Proofs.Ytppphelihimidaa
