/- cdb's values, bytes, In and Out. -/
import Derived.Test.YtmaofhiapkfoaaaDoorCdbF
namespace Go.Proofs.YtmaofhiapkfoaaaDoor
open Go.RowKit
set_option linter.unusedVariables false
set_option linter.unusedSimpArgs false
set_option maxRecDepth 20000
theorem wrapU (n : Int) : IntKind.u64.wrap n = n % 18446744073709551616 := by simp [IntKind.wrap, IntKind.bits, IntKind.signed]
def valA (c : Cmd) : Array Value := #[.int .u64 (u64w c.service), .int .u64 (if c.vital then 1 else 0), .int .u64 (u64w c.page), .int .u64 (u64w c.typ), .int .u64 c.lba, .int .u64 (u64w c.len)]
theorem values_any (c : Cmd) (w : World) : Calls Tryd.prog 36 #[.agg c.cells] w fun e w' => e = .returned (.agg (valA c)) ∧ Same w w' := by
  obtain ⟨op, service, page, vital, typ, lba, len⟩ := c
  unfold Cmd.cells valA
  simp only
  cases vital
  · go_enter Tryd.func36, Tryd.ntmps36
    go_wp2
    exact bodyPost_ret (v := .agg #[.int .u64 (u64w service), .int .u64 0, .int .u64 (u64w page), .int .u64 (u64w typ), .int .u64 lba, .int .u64 (u64w len)]) (by simp [results, Tryd.results36, go_sem, u64w, wrapU]) rfl ⟨rfl, (((Upd.refl _ w).alloc _).alloc _).alloc _⟩
  · go_enter Tryd.func36, Tryd.ntmps36
    go_wp2
    exact bodyPost_ret (v := .agg #[.int .u64 (u64w service), .int .u64 1, .int .u64 (u64w page), .int .u64 (u64w typ), .int .u64 lba, .int .u64 (u64w len)]) (by simp [results, Tryd.results36, go_sem, u64w, wrapU]) rfl ⟨rfl, (((Upd.refl _ w).alloc _).alloc _).alloc _⟩
/-- bytes. -/
def byteN (n t : Int) : Int := if n < 0 then 0 else if 1099511627776 / t < n then 1099511627776 else n * t
theorem bytes_any (n t : Int) (w : World) (h1 : -9223372036854775808 ≤ n) (h2 : n ≤ 9223372036854775807) (ht : t = 1 ∨ t = 64) :
    Calls Tryd.prog 40 #[.int .i64 n, .int .i64 t] w fun e w' => e = .returned (.int .i64 (byteN n t)) ∧ w = w' := by
  rcases ht with rfl | rfl
  · go_enter Tryd.func40, Tryd.ntmps40
    go_wp2
    all_goals
      go_ret
      exact ⟨ret_int (by unfold byteN; split at * <;> (try split) <;> omega), rfl⟩
  · go_enter Tryd.func40, Tryd.ntmps40
    go_wp2
    all_goals
      go_ret
      exact ⟨ret_int (by unfold byteN; split at * <;> (try split) <;> omega), rfl⟩
def outN (c : Cmd) : Int := if c.op = 42 ∨ c.op = 138 then byteN c.len 64 else if c.op = 66 ∨ c.op = 95 then byteN c.len 1 else 0
def inN (c : Cmd) : Int := if c.op = 40 ∨ c.op = 136 then byteN c.len 64 else if c.op = 37 then 8 else if c.op = 3 ∨ c.op = 18 ∨ c.op = 94 ∨ c.op = 160 ∨ c.op = 163 then byteN c.len 1 else 0
theorem out_any (c : Cmd) (w : World) (h : c.ok) : Calls Tryd.prog 17 #[.agg c.cells] w fun e w' => e = .returned (.int .i64 (outN c)) ∧ Same w w' := by
  obtain ⟨op, service, page, vital, typ, lba, len⟩ := c
  obtain ⟨h0, h1, h2, h3, h4, h5⟩ := h
  have b64 := fun w => bytes_any len 64 w h5.1 h5.2 (.inr rfl)
  have b1 := fun w => bytes_any len 1 w h5.1 h5.2 (.inl rfl)
  have B64 := Lib.hid b64
  have B1 := Lib.hid b1
  clear b64 b1 h0 h1 h2 h3 h4 h5
  unfold Cmd.cells
  simp only
  go_enter Tryd.func17, Tryd.ntmps17
  go_wp2_with (first | (with_reducible refine (B64.out _).mono ?_; rintro e w1 ⟨rfl, rfl⟩) | (with_reducible refine (B1.out _).mono ?_; rintro e w1 ⟨rfl, rfl⟩))
  all_goals
    go_ret
    exact ⟨ret_int (by unfold outN; simp_all), (Upd.refl _ w).alloc _⟩
theorem in_any (c : Cmd) (w : World) (h : c.ok) : Calls Tryd.prog 16 #[.agg c.cells] w fun e w' => e = .returned (.int .i64 (inN c)) ∧ Same w w' := by
  obtain ⟨op, service, page, vital, typ, lba, len⟩ := c
  obtain ⟨h0, h1, h2, h3, h4, h5⟩ := h
  have b64 := fun w => bytes_any len 64 w h5.1 h5.2 (.inr rfl)
  have b1 := fun w => bytes_any len 1 w h5.1 h5.2 (.inl rfl)
  have B64 := Lib.hid b64
  have B1 := Lib.hid b1
  clear b64 b1 h0 h1 h2 h3 h4 h5
  unfold Cmd.cells
  simp only
  go_enter Tryd.func16, Tryd.ntmps16
  go_wp2_with (first | (with_reducible refine (B64.out _).mono ?_; rintro e w1 ⟨rfl, rfl⟩) | (with_reducible refine (B1.out _).mono ?_; rintro e w1 ⟨rfl, rfl⟩))
  all_goals
    go_ret
    exact ⟨ret_int (by unfold inN; simp_all), (Upd.refl _ w).alloc _⟩
end Go.Proofs.YtmaofhiapkfoaaaDoor
