/- append([]byte{}, u...): never nil. -/
import Derived.Test.YtccbkagmglddfaaGa
namespace Go.Proofs.Ytccbkagmglddfaa
open Go.RowKit
set_option linter.unusedVariables false
set_option linter.unusedSimpArgs false
section
variable {P : Program}
theorem run_append_some {t e : TypeId} {i : TypeInfo} (ty : TypeId) (ht : P.underlying t = some (.slice e)) (hi : P.info? e = some i) (hz : i.zero = some (.int .u8 0)) (hsz : i.size = 1) (hby : i.bytes = 1)
    {w : World} {a : Addr} {u : Value} {ys : List UInt8} (hu : Bs w u ys) (hb : ys.length ≤ 200000000000000) :
    ∃ a' n' c' w', (Builtin.append_ #[t, t] ty #[.slice (some a) 0 0, u]).run P w = .ok (.slice (some a') n' c') w' ∧ Fresh w.heap.size w' (.slice (some a') n' c') ys ∧ Same w w' := by
  have hv : Own w.heap.size w (.slice (some a) 0 0) 1 [] := ⟨_, 0, 0, rfl, rfl, by omega, by omega, .inl rfl⟩
  rcases Nat.eq_zero_or_pos ys.length with h0 | h0
  · have ey : ys = [] := List.length_eq_zero_iff.1 h0
    subst ey
    obtain ⟨B, c, rfl, _, _, _⟩ := hu
    have hf : (Builtin.firstCells 1 0 (.slice B 0 c)).run P w = .ok #[] w := by
      rcases B with _ | b
      · exact run_firstCells_none w 1 0 0 c
      · exact run_firstCells_some w 1 0 b 0 c [] (by simp) (fun j v hj => by simp at hj)
    refine ⟨a, 0, 0, w, ?_, hv, Upd.refl _ w⟩
    simp [Builtin.append_, run_underlying ht, sizeOf, typeInfo, hi, hsz, Builtin.lenOf, hf, storeCells]
  · obtain ⟨v', w', hrun, r1, r2, r3⟩ := run_append (P := P) ty ht hi hz hsz hby rfl (by decide) hv hu.rdr (B_one ys) (Nat.le_refl _) 0 ys.length (by simp) (by simp) (by omega) (by omega)
    rw [List.nil_append] at r1
    obtain ⟨A, n, c, rfl, -⟩ := r1.open_
    obtain ⟨b, off, rfl, -⟩ := r1.at_ (by simpa using h0)
    exact ⟨_, n, c, w', hrun, r1, r2.mono (fun k _ hk => by simp [room] at hk)⟩
theorem step_append_some {ops : Array Oper} {o : Oper} {a : Act} {w : World} {K : Act → World → Prop} {Q : Exit → Act → World → Prop} {E : Prop}
    (hg : o.guard = none) (s x : Operand) (t : TypeId) (hop : o.op = Op.call { callee := Callee.builtin Builtin.append, args := #[s, x], argTypes := #[t, t] })
    {e : TypeId} (ht : P.underlying t = some (.slice e)) (hinfo : (P.info? e).map (fun i => (i.zero, i.size, i.bytes)) = some (some (.int .u8 0), 1, 1))
    (a0 : Addr) (u : Value) (ys : List UInt8) (hvs : a.eval s = .slice (some a0) 0 0) (hux : a.eval x = u) (hu : Bs w u ys) (hb : ys.length ≤ 200000000000000)
    (h : ∀ a' n' c' w', Fresh w.heap.size w' (.slice (some a') n' c') ys → Same w w' → K (a.put o.dst (.slice (some a') n' c')) w') :
    if Region.wanted o (yielded ops a.tmps) = true then Oper.wp P o a w K Q else E := by
  have hw : Region.wanted o (yielded ops a.tmps) = true := by simp [Region.wanted, hg]
  rw [if_pos hw]
  obtain ⟨i, hi, hzz⟩ := Option.map_eq_some_iff.1 hinfo
  simp only [Prod.mk.injEq] at hzz
  obtain ⟨hz0, hz1, hz2⟩ := hzz
  obtain ⟨a', n', c', w', hrun, r1, r2⟩ := run_append_some (P := P) o.type ht hi hz0 hz1 hz2 (a := a0) hu hb
  subst hux
  unfold Oper.wp
  simp [execOp, hop, resolve, invoke, builtin, hvs, hrun, Result.andThen]
  exact h a' n' c' w' r1 r2
end
end Go.Proofs.Ytccbkagmglddfaa
