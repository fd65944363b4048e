/- slices.Clone of bytes. -/
import Derived.Test.YtppphelihimidaaRowsB
import Derived.Lib.Hide
namespace Go.Proofs.Ytppphelihimidaa
open Go.RowKit
set_option linter.unusedVariables false
set_option linter.unusedSimpArgs false
theorem Fresh.empty (base : Nat) (w : World) (A : Option Addr) : Fresh base w (.slice A 0 0) [] := ⟨A, 0, 0, rfl, rfl, by omega, by omega, .inl rfl⟩
/-- slices.Clone of bytes: the same bytes in new memory. -/
theorem clone_bs (v : Value) (bs : List UInt8) (w : World) (h : Bs w v bs) (hl : bs.length ≤ 200000000000000) :
    Calls Try.prog 56 #[v] w fun e w' => ∃ v', e = .returned v' ∧ Fresh w.heap.size w' v' bs ∧ Same w w' := by
  have hi5 : (Try.prog.info? 5).map (fun i => (i.zero, i.size, i.bytes)) = some (some (.int .u8 0), 1, 1) := by kernel_rfl
  obtain ⟨A, cap, rfl, h1, h2, h3⟩ := h
  have hnil := fun (W : World) (n : Nat) => Lib.run_eql_slice_nil (P := Try.prog) W 35 5 A n cap 0 0 Try.underlying35
  rcases A with _ | a
  · have hb : bs = [] := by
      rcases h3 with h3 | ⟨_, _, h3, _⟩
      · exact h3
      · cases h3
    subst hb
    go_enter Try.func56, Try.ntmps56
    go_wp2
    go_ret
    exact ⟨_, rfl, Fresh.nil _ w, Upd.refl _ w⟩
  · go_enter Try.func56, Try.ntmps56
    go_wp2_with (at_builtin; refine wpl_append_bytes rfl (.tmp 5) (.tmp 6) 35 rfl Try.underlying35 hi5 w.heap.size (.slice (some ⟨w.heap.size, 0, none⟩) 0 0) (.slice (some a) bs.length cap) [] bs bs rfl rfl rfl (Fresh.empty _ _ _) (Bs.same ⟨_, cap, rfl, h1, h2, h3⟩ ((Upd.refl _ w).alloc _)) (by simp) (by simpa using hl) ?_; intro v2 w2 hf2 hu2 hr2)
    go_ret
    exact ⟨_, rfl, hf2, ((Upd.refl _ w).alloc _).trans hu2 fun i _ hi => by simp [room] at hi⟩
end Go.Proofs.Ytppphelihimidaa
