/- For every input CdbRanges returns true, and each argument reads afterwards as it read before. No condition but the form's own reach. -/
import Derived.Test.YtmaofhiapkfoaaaDoorWalkCdbRanges
import Derived.Test.YtmaofhiapkfoaaaDoorOpenR
import Derived.Test.YtmaofhiapkfoaaaDoorLawKit
import Derived.Test.YtmaofhiapkfoaaaDoorLaid
import Derived.Test.YtmaofhiapkfoaaaDoorCards
import Derived.Test.YtmaofhiapkfoaaaDoorTie
import Derived.LaidMore
import Derived.Stop.Joined
import Derived.SevenTiedAt
namespace Go.Proofs.YtmaofhiapkfoaaaDoor
open Go.ChangeShapes Go.WideShapes Go.ChangeAt Go.RowKit
set_option linter.unusedVariables false
theorem cdbRanges_own : ownKnob Tryd.prog.godebug = none := by kernel_rfl
theorem cdbRanges_laidOut : laidOutB Tryd.prog = true := by kernel_rfl
theorem cdbRanges_door (os : Os) (args : Array Value) : laidMetH Tryd.prog [("caisson/cdb.rows", Rows.laid_caisson_cdb_rows)] ((World.doorLaid Tryd.prog 400 os).forCall (fun _ _ => 0) ⟨#[], args, []⟩).memory :=
  laidMetH_of_parts3 (fuel := 8) (laidMet_of_run' 8 (by kernel_rfl) (by kernel_rfl)) (by kernel_rfl) (by kernel_rfl)
set_option maxRecDepth 100000 in
theorem cdbRanges_lifted (os : Os) (started : os.Started) (H : Type) (enc : TypeId × Value → H) :
    ReturnsInHanded {} Tryd.checked os 8 .any (fun w args => (Rows.cdbRangesSpec.pre enc Tryd.prog Tryd.f8 [] false w args ∧ laidMetH Tryd.prog [("caisson/cdb.rows", Rows.laid_caisson_cdb_rows)] w) ∧ sizedMet enc Tryd.prog Tryd.f8 (OpenSpec.ofChange Rows.cdbRangesSpec) false w args) (Rows.cdbRangesSpec.post enc Tryd.prog Tryd.f8 false true false false) := by
  refine returnsInHanded_of_change_and (C := Tryd.checked) (X := fun w _ => laidMetH Tryd.prog [("caisson/cdb.rows", Rows.laid_caisson_cdb_rows)] w) (fun _ _ _ hh h => h.of_heap hh) cdbRanges_own started (by kernel_rfl) Tryd.func8
    (ChangeSpec.witness_shaped (enc := enc) (C := Tryd.checked) (os := os) (X := fun w _ => laidMetH Tryd.prog [("caisson/cdb.rows", Rows.laid_caisson_cdb_rows)] w) false (World.doorLaid Tryd.prog 400 os) #[.slice none 0 0, .slice none 0 0] 8 rfl (World.shaped_of_RefB (by kernel_rfl) (by kernel_rfl)) (by kernel_rfl) (by kernel_rfl) (by kernel_rfl) (cdbRanges_door os _)) ?_
  intro W base args ds gs before hval0 hW hcnd hsz0 hL _
  have hval : ∀ (j : Nat) t v, Tryd.f8.params[j]? = some t → args[j]? = some v → Value.okWide Tryd.prog W .any base t v := hval0
  have hW' := hW
  obtain ⟨p, q, hA0, hV, rfl, hfz, hnd⟩ := hW
  have hA : DataW.TrodAll enc Tryd.prog W 0 (fun _ => true) true Tryd.f8.params.toList args.toList ds p := hA0
  have hsz : (DataW.weightsEach Tryd.prog (Tryd.f8.params.toList ++ Rows.cdbRangesSpec.plain.varTypes Tryd.prog) (ds ++ gs)).all (· ≤ reachBytes) = true := hsz0
  rw [Tryd.params8] at hA hval hsz
  obtain ⟨v0, vs0, d0, ds0, p0, q0, hargs, rfl, rfl, h0, r0⟩ := trodAll_cons hA
  obtain ⟨v1, vs1, d1, ds1, p1, q1, rfl, rfl, rfl, h1, r1⟩ := trodAll_cons r0
  obtain ⟨rfl, rfl, rfl⟩ := trodAll_nil r1
  obtain rfl : args = #[v0, v1] := by cases args; simp_all
  obtain ⟨rfl, rfl⟩ := trodVars_none hV
  have k0 := h0
  have lt0 : ∀ x ∈ p0, x.block < W.heap.size := by obtain ⟨m, hm⟩ := k0; exact DataW.trod_lt m _ _ _ hm
  have k1 := h1
  have lt1 : ∀ x ∈ p1, x.block < W.heap.size := by obtain ⟨m, hm⟩ := k1; exact DataW.trod_lt m _ _ _ hm
  obtain ⟨x0, hx0⟩ := openRg (hval 0 53 v0 rfl rfl) h0 (sized_each hsz (j := 0) rfl rfl)
  obtain ⟨b1, hb1, l1⟩ := open_bytes Tryd.underlying25 Tryd.underlying5 (by kernel_rfl) (by kernel_rfl) (okWide_slice Tryd.underlying25 (hval 1 25 v1 rfl rfl)) h1 (sized_each hsz (j := 1) rfl rfl)
  clear hA0 hval0
  refine (cdbRanges_walk W (tab_of_laid hL) v0 x0 hx0.1 hx0.2.1 hx0.2.2 v1 b1 hb1 l1).mono fun e W' ⟨he, hs⟩ => ?_
  subst he
  have bel := hs.below
  exact ⟨_, rfl, _, _, _, [], _, [], hW', trodAll_mk1 (shut_bool Tryd.underlying4 _), (trodAll_cons_mk (Below.trod cdbRanges_laidOut (by kernel_rfl) (of_decide_eq_true (by kernel_rfl)) k0 bel lt0) (trodAll_cons_mk (Below.trod cdbRanges_laidOut (by kernel_rfl) (of_decide_eq_true (by kernel_rfl)) k1 bel lt1) trodAll_mk0)), rfl, bel.frame _, fun h => by cases h⟩
theorem cdbRanges_over : Rows.cdbRangesRow.holds Tryd.pinned (OpenSpec.ofChange Rows.cdbRangesSpec) :=
  OpenClaim.holds_of_wide 8 Tryd.f8 rfl rfl rfl rfl rfl rfl rfl ⟨rfl, rfl, rfl, rfl, rfl⟩ rfl rfl rfl rfl rfl (by kernel_rfl) Tryd.func8 (by kernel_rfl)
    (of_decide_eq_true (by kernel_rfl)) (by unfold Func.isWrapper; first | (rw [if_pos (by decide +kernel)]; kernel_rfl) | (rw [if_neg (by decide +kernel)]; exact ⟨rfl, rfl⟩))
    (fun os started H enc _ => cdbRanges_lifted os started H enc)
/-- The statement. -/
theorem cdbRanges_holds : Rows.CdbRangesSaid := cdbRanges_over
/-- The tied card. -/
theorem cdbRanges_card : Rows.CdbRangesCardSaid :=
  Claim7.holds_tied_plain_at .later [] [.data] true Rows.cdbRangesCard.stood.harness false cdbRanges_holds (fun _ h => by cases h) (by kernel_rfl) (fun _ h => by cases h) cdbRanges_row_tie rfl ⟨rfl, rfl⟩ (by kernel_rfl) rfl
    (fun f fn hf hfn => by
      obtain rfl : f = 8 := Option.some.inj ((show Tryd.prog.funcNamed "caisson/caissonlaw15.CdbRanges" = some 8 by kernel_rfl).symm.trans hf) |>.symm
      obtain rfl : fn = Tryd.f8 := (Option.some.inj (Tryd.func8.symm.trans hfn)).symm
      exact ⟨by kernel_rfl, fun j t ht => by
        rw [Tryd.params8] at ht
        have hm : t ∈ ([53, 25] : List Nat) := by simpa using Array.mem_of_getElem? ht
        have hall : (([53, 25] : List Nat).all fun u => !Tryd.prog.wantsStandIn u) = true := by kernel_rfl
        exact (show Tryd.prog.wantsStandIn t = false by simpa using List.all_eq_true.1 hall t hm)⟩)
    (by kernel_rfl)
#print axioms cdbRanges_card
end Go.Proofs.YtmaofhiapkfoaaaDoor
