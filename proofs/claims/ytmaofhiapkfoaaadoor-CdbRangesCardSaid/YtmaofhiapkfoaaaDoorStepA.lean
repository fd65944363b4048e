/- append on a row of the call's own, as one step of a region that draws its order. -/
import Derived.Test.YtmaofhiapkfoaaaDoorRowsB
import Derived.Deep.RegionLaw
namespace Go.Proofs.YtmaofhiapkfoaaaDoor
open Go.RowKit
set_option linter.unusedVariables false
set_option linter.unusedSimpArgs false
section
variable {P : Program}
/-- append(v, u...), v of the call's own, as one step of a region that draws its order: elements of sz cells. -/
theorem step_append_own {ops : Array Oper} {o : Oper} {a : Act} {w : World} {K : Act → World → Prop} {Q : Exit → Act → World → Prop} {E : Prop}
    (hg : o.guard = none) (s x : Operand) (t : TypeId) (hop : o.op = Op.call { callee := Callee.builtin Builtin.append, args := #[s, x], argTypes := #[t, t] })
    {e : TypeId} {z : Value} {sz bytes : Nat} (ht : P.underlying t = some (.slice e)) (hinfo : (P.info? e).map (fun i => (i.zero, i.size, i.bytes)) = some (some z, sz, bytes)) (hzs : z.cells.size = sz) (hs0 : 0 < sz)
    {base : Nat} (v u : Value) {xs ys : List Value} (hvs : a.eval s = v) (hux : a.eval x = u)
    (hv : Own base w v sz xs) (hu : Rdr w u sz ys) (h1 : ∀ y ∈ ys, y.oneCell' = true) (hbase : base ≤ w.heap.size)
    (n m : Nat) (hn : xs.length = n * sz) (hm : ys.length = m * sz) (hb : ((n + m) + (n + m) / 4 + 192) * bytes ≤ 281474976710656) (hmax : n + m ≤ 9223372036854775807)
    (h : ∀ v' w', Own base w' v' sz (xs ++ ys) → Upd (fun k => room v = some k) w w' → (∀ k, room v' = some k → room v = some k ∨ w.heap.size ≤ k) → K (a.put o.dst v') w') :
    if Region.wanted o (yielded ops a.tmps) = true then Oper.wp P o a w K Q else E := by
  have hw : Region.wanted o (yielded ops a.tmps) = true := by simp [Region.wanted, hg]
  rw [if_pos hw]
  obtain ⟨i, hi, hzz⟩ := Option.map_eq_some_iff.1 hinfo
  simp only [Prod.mk.injEq] at hzz
  obtain ⟨hz0, hz1, hz2⟩ := hzz
  subst hvs
  subst hux
  obtain ⟨v', w', hrun, r1, r2, r3⟩ := run_append (P := P) o.type ht hi hz0 hz1 hz2 hzs hs0 hv hu h1 hbase n m hn hm hb hmax
  unfold Oper.wp
  simp [execOp, hop, resolve, invoke, builtin, hrun, Result.andThen]
  exact h v' w' r1 r2 r3
end
end Go.Proofs.YtmaofhiapkfoaaaDoor
