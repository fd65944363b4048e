/- The walk of PduNil. -/
import Derived.Test.YtfafepmghcobdaaPduJ
import Derived.Test.YtfafepmghcobdaaPduI
import Derived.Test.YtfafepmghcobdaaGb
namespace Go.Proofs.Ytfafepmghcobdaa
open Go.RowKit
set_option linter.unusedVariables false
set_option linter.unusedSimpArgs false
set_option maxRecDepth 100000
set_option maxHeartbeats 4000000
theorem next_nil (w : World) : Calls Try.prog 16 #[.pointer none] w fun e w' => e = .returned (.tuple #[pdA noP (.slice none 0 0), .int .i64 2, .bool true]) ∧ Same w w' := by
  have hns : BoxC (w.alloc (.cells #[.int .i64 0, .bool false, .int .i64 0, .int .i64 0, .int .i64 0, .int .u64 0, .int .u32 0, .int .u32 0, .int .u32 0, .int .u32 0, .int .u32 0, .int .u32 0, .int .u32 0, .int .u32 0, .slice none 0 0] 40)) w.heap.size (pdC noP (.slice none 0 0)) := BoxC.newAt w (pdC noP (.slice none 0 0)) 40 w.heap.size rfl
  have hs : Same w (w.alloc (.cells #[.int .i64 0, .bool false, .int .i64 0, .int .i64 0, .int .i64 0, .int .u64 0, .int .u32 0, .int .u32 0, .int .u32 0, .int .u32 0, .int .u32 0, .int .u32 0, .int .u32 0, .int .u32 0, .slice none 0 0] 40)) := (Upd.refl _ w).alloc _
  go_enter Try.func16, Try.ntmps16
  go_wp2_with fail
  go_step3
  go_wp2_with fail
  generalize w.alloc (.cells #[.int .i64 0, .bool false, .int .i64 0, .int .i64 0, .int .i64 0, .int .u64 0, .int .u32 0, .int .u32 0, .int .u32 0, .int .u32 0, .int .u32 0, .int .u32 0, .int .u32 0, .int .u32 0, .slice none 0 0] 40) = w1 at hns hs ⊢
  refine (state_nil w1).mono ?_
  rintro e w2 ⟨rfl, rfl⟩
  have z0 := hns.1 0 _ rfl
  have z1 := hns.1 1 _ rfl
  have z2 := hns.1 2 _ rfl
  have z3 := hns.1 3 _ rfl
  have z4 := hns.1 4 _ rfl
  have z5 := hns.1 5 _ rfl
  have z6 := hns.1 6 _ rfl
  have z7 := hns.1 7 _ rfl
  have z8 := hns.1 8 _ rfl
  have z9 := hns.1 9 _ rfl
  have z10 := hns.1 10 _ rfl
  have z11 := hns.1 11 _ rfl
  have z12 := hns.1 12 _ rfl
  have z13 := hns.1 13 _ rfl
  have z14 := hns.1 14 _ rfl
  have fz := hns.2
  unfold FzAt at fz
  have HNS := Lib.hid hns
  have HS := Lib.hid hs
  clear hns hs
  go_wp2_with fail
  try rw [Exit.noGoto_ret]
  refine next_ret (b := w.heap.size) noP none 0 0 (x := 2) (y := true) ?_ ?_ ?_ ?_ (BoxTo.full ?_) ?_
  · rfl
  · rfl
  · rfl
  · rfl
  · iterate 15 refine BoxTo.step ?_ (by decide) rfl
    exact BoxTo.zero noP noP (.slice none 0 0) (.slice none 0 0) HNS.out.1
  · refine ⟨rfl, Same.into HS.out (S := fun k => k = w.heap.size) ?_ (fun k hk => by omega)⟩
    repeat refine Upd.setCell ?_ (by simp) _
    exact Upd.refl _ _
theorem feed_nil (w : World) (A : Option Addr) (n cap : Nat) : Calls Try.prog 15 #[.pointer none, .slice A n cap] w fun e w' => e = .returned (.int .i64 2) ∧ w = w' := by
  have h := Lib.hid (state_nil w)
  go_enter Try.func15, Try.ntmps15
  go_wp2_with fail
  refine h.out.mono ?_
  rintro e w1 ⟨rfl, rfl⟩
  go_wp2_with fail
  go_ret
  exact ⟨rfl, rfl⟩
theorem set_nil (w : World) (o : Ag) : Calls Try.prog 28 #[.pointer none, agA o] w fun e w' => e = .returned (.int .i64 2) ∧ Same w w' := by
  have h := Lib.hid (fun W => state_nil W)
  unfold agA
  go_enter Try.func28, Try.ntmps28
  go_wp2_with fail
  refine (h.out _).mono ?_
  rintro e w1 ⟨rfl, rfl⟩
  go_wp2_with fail
  go_ret
  exact ⟨rfl, (Upd.refl _ w).alloc _⟩
theorem left_nil (w : World) : Calls Try.prog 20 #[.pointer none] w fun e w' => e = .returned (.int .i64 0) ∧ w = w' := by
  go_enter Try.func20, Try.ntmps20
  go_wp2_with fail
  go_ret
  exact ⟨rfl, rfl⟩
theorem dead_nil (w : World) : Calls Try.prog 21 #[.pointer none] w fun e w' => e = .returned (.bool false) ∧ w = w' := by
  go_enter Try.func21, Try.ntmps21
  go_wp2_with fail
  go_ret
  exact ⟨rfl, rfl⟩
theorem pduNil_walk (w : World) (v : Value) (bs : List UInt8) (h : Bs w v bs) (hl : bs.length ≤ 140737488351232) :
    Calls Try.prog 7 #[v] w fun e w' => e = .returned (.bool true) ∧ Same w w' := by
  obtain ⟨A, cap, rfl, -⟩ := id h
  clear h hl
  have hn := Lib.hid (next_nil w)
  have hf := Lib.hid (fun W => feed_nil W A bs.length cap)
  have ht := Lib.hid (fun W => taken_any noP none 0 0 W)
  have hq := Lib.hid (fun W => same_any noP none none 0 0 0 0 W (Fresh.nil 0 W).bs (Fresh.nil 0 W).bs)
  have hs := Lib.hid (fun W => set_nil W kO)
  have hk := Lib.hid (fun W => known17_any W)
  have hl := Lib.hid (fun W => left_nil W)
  have hd := Lib.hid (fun W => dead_nil W)
  have hbd : ∀ W, (Instr.build 42 #[]).run Try.prog W = .ok (.agg #[.int .i64 0, .bool false, .int .i64 0, .int .i64 0, .int .i64 0, .int .u64 0, .int .u32 0, .int .u32 0, .int .u32 0, .int .u32 0, .int .u32 0, .int .u32 0, .int .u32 0, .int .u32 0, .slice none 0 0]) W := fun W => run_build W _ _ _ (by kernel_rfl)
  have hbo : ∀ W, (Instr.build 30 #[(2, .int .i64 100)]).run Try.prog W = .ok (.agg #[.bool false, .bool false, .int .i64 100]) W := fun W => run_build W _ _ _ (by kernel_rfl)
  go_enter Try.func7, Try.ntmps7
  go_wp2_with fail
  refine hn.out.mono ?_
  rintro e w1 ⟨rfl, hs1⟩
  have HS1 := Lib.hid hs1
  clear hs1
  unfold pdA
  go_wp2_with fail
  refine (hf.out _).mono ?_
  rintro e w2 ⟨rfl, rfl⟩
  go_wp2_with fail
  refine (ht.out _).mono ?_
  rintro e w2 ⟨rfl, hs2⟩
  have HS2 := Lib.hid (Same.trans (HS1.out.alloc _) hs2)
  clear hs2
  go_wp2_with fail
  refine (hq.out _).mono ?_
  rintro e w3 ⟨rfl, hs3⟩
  have HS3 := Lib.hid (Same.trans HS2.out hs3)
  clear hs3
  go_wp2_with fail
  refine (hs.out _).mono ?_
  rintro e w4 ⟨rfl, hs4⟩
  have HS4 := Lib.hid (Same.trans HS3.out hs4)
  clear hs4
  go_wp2_with fail
  refine (hl.out _).mono ?_
  rintro e w5 ⟨rfl, rfl⟩
  go_wp2_with fail
  refine (hd.out _).mono ?_
  rintro e w5 ⟨rfl, rfl⟩
  go_wp2_with fail
  refine (hk.out _).mono ?_
  rintro e w6 ⟨rfl, hs6⟩
  have HS6 := Lib.hid (Same.trans HS4.out hs6)
  clear hs6
  go_wp2_with fail
  go_ret
  exact ⟨rfl, HS6.out⟩
end Go.Proofs.Ytfafepmghcobdaa
