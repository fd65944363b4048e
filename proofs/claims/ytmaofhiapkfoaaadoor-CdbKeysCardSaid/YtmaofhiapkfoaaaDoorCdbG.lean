/- The law's given and taken; commands that are alike. -/
import Derived.Test.YtmaofhiapkfoaaaDoorCdbK
namespace Go.Proofs.YtmaofhiapkfoaaaDoor
open Go.RowKit
set_option linter.unusedVariables false
set_option linter.unusedSimpArgs false
set_option maxRecDepth 20000
theorem given_any (c : Cmd) (w : World) : Calls Tryd.prog 10 #[.agg c.cells] w fun e w' => e = .returned (.agg c.cells) ∧ Same w w' := by
  obtain ⟨op, service, page, vital, typ, lba, len⟩ := c
  unfold Cmd.cells
  simp only
  go_enter Tryd.func10, Tryd.ntmps10
  go_wp2
  exact bodyPost_ret (v := .agg #[.int .i64 op, .int .i64 service, .int .i64 page, .bool vital, .int .i64 typ, .int .u64 lba, .int .i64 len]) (by simp [results, Tryd.results10, go_sem]) rfl ⟨rfl, (((Upd.refl _ w).alloc _).alloc _)⟩
theorem taken_any (c : Cmd) (w : World) : Calls Tryd.prog 14 #[.agg c.cells] w fun e w' => e = .returned (.agg c.cells) ∧ Same w w' := by
  obtain ⟨op, service, page, vital, typ, lba, len⟩ := c
  unfold Cmd.cells
  simp only
  go_enter Tryd.func14, Tryd.ntmps14
  go_wp2
  exact bodyPost_ret (v := .agg #[.int .i64 op, .int .i64 service, .int .i64 page, .bool vital, .int .i64 typ, .int .u64 lba, .int .i64 len]) (by simp [results, Tryd.results14, go_sem]) rfl ⟨rfl, (((Upd.refl _ w).alloc _).alloc _)⟩
/-- Are two commands alike? -/
def alikeC (a b : Cmd) : Bool := a.op == b.op && (a.service == b.service && (a.page == b.page && (a.vital == b.vital && (a.typ == b.typ && (a.lba == b.lba && a.len == b.len)))))
theorem alikeC_iff (a b : Cmd) : alikeC a b = true ↔ a = b := by
  obtain ⟨a0, a1, a2, a3, a4, a5, a6⟩ := a
  obtain ⟨b0, b1, b2, b3, b4, b5, b6⟩ := b
  simp [alikeC]
theorem run_alikeC (a b : Cmd) (W : World) : (Op.equalIn 10000 24 (.agg a.cells) (.agg b.cells)).run Tryd.prog W = .ok (alikeC a b) W := by
  obtain ⟨a0, a1, a2, a3, a4, a5, a6⟩ := a
  obtain ⟨b0, b1, b2, b3, b4, b5, b6⟩ := b
  rw [run_equalIn_agg (d := 9999) _ _ _ _ (by kernel_rfl) (by kernel_rfl)]
  simp [Cmd.cells, go_sem, Tryd.underlying24]
  by_cases h0 : a0 = b0
  case neg => simp [alikeC, h0]
  subst h0
  by_cases h1 : a1 = b1
  case neg => simp [alikeC, h1]
  subst h1
  by_cases h2 : a2 = b2
  case neg => simp [alikeC, h2]
  subst h2
  by_cases h3 : a3 = b3
  case neg => simp [alikeC, h3]
  subst h3
  by_cases h4 : a4 = b4
  case neg => simp [alikeC, h4]
  subst h4
  by_cases h5 : a5 = b5
  case neg => simp [alikeC, h5]
  subst h5
  by_cases h6 : a6 = b6
  case neg => simp [alikeC, h6]
  subst h6
  simp [alikeC]
end Go.Proofs.YtmaofhiapkfoaaaDoor
