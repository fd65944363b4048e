/- The law's given2 and taken2, the reference's SameRanges. -/
import Derived.Test.YtmaofhiapkfoaaaDoorCdbT
import Derived.Test.YtmaofhiapkfoaaaDoorCdbP
import Derived.Test.YtmaofhiapkfoaaaDoorStepA
import Derived.Test.YtmaofhiapkfoaaaDoorFoot
import Derived.Deep.RegionHeld3
namespace Go.Proofs.YtmaofhiapkfoaaaDoor
open Go.RowKit
set_option linter.unusedVariables false
set_option linter.unusedSimpArgs false
set_option maxRecDepth 20000
set_option maxHeartbeats 2000000
theorem hinfo_given2 : (Tryd.prog.info? 101).map (fun i => (i.zero, i.size, i.bytes)) = some (some (.agg #[.int .u64 0, .int .i64 0]), 2, 16) := by kernel_rfl
theorem given2_any (v : Value) (l : List Rg) (w : World) (h : Rdr w v 2 (l.flatMap rgC)) (hl : l.length ≤ 8796093022208) :
    Calls Tryd.prog 29 #[v] w fun e w' => ∃ v', e = .returned v' ∧ Own w.heap.size w' v' 2 (l.flatMap rgC) ∧ Same w w' := by
  obtain ⟨A, cap, rfl, k1, k2, hcells⟩ := rdr_rg h
  have HC := Lib.hid hcells
  clear h hcells
  go_enter Tryd.func29, Tryd.ntmps29
  go_wp2_with fail
  go_loopw [3, 4] (fun v3 v4 wr => ∃ i : Nat, i ≤ l.length ∧ v4 = .int .i64 i ∧ Hid (Own w.heap.size wr v3 2 ((l.take i).flatMap rgC) ∧ Same w wr)) (fun _ v4 _ => l.length - (intOf v4).toNat)
  case atStart => exact ⟨0, by omega, rfl, Own.nil _ _ _, Upd.refl _ w⟩
  case round =>
    obtain ⟨i, hi, rfl, hin⟩ := hrel
    by_cases hlt : i < l.length
    · have gi : (i : Int) < (l.length : Int) := by omega
      obtain ⟨b, off, rfl, c1, c2⟩ := HC.out i hlt
      obtain ⟨ho, hs⟩ := hin.out
      have hbl : b < w.heap.size := cell_lt' c1
      replace c1 := hs.cell c1 id
      replace c2 := hs.cell c2 id
      have hbr : ∀ k, room u3 = some k → w.heap.size ≤ k := fun k hk => (ho.ge (by decide) k hk).1
      have htk : (l.take (i + 1)).flatMap rgC = (l.take i).flatMap rgC ++ [.int .u64 l[i].1, .int .i64 l[i].2] := by
        rw [List.take_succ_eq_append_getElem hlt, List.flatMap_append]; simp [rgC]
      have HTK := Lib.hid htk
      have hln : ((l.take i).flatMap rgC).length = i * 2 := by rw [flat_len, List.length_take, Nat.min_eq_left (by omega)]
      have HLN := Lib.hid hln
      generalize l[i].1 = lba at c1 HTK
      generalize l[i].2 = N at c2 HTK
      have HO := Lib.hid ho
      have HS := Lib.hid hs
      have HBR := Lib.hid hbr
      have HSZ := Lib.hid hs.size
      clear htk hln ho hs hin hbr
      obtain ⟨zA0, zn0, zc0, hz0, -⟩ := Own.open_ HO.out
      subst hz0
      go_wp2_with fail
      go_region_held3 (fun w' => w'.cell? ⟨b, off + i * 2, none⟩ = some (.int .u64 lba) ∧ w'.cell? ⟨b, off + i * 2 + 1, none⟩ = some (.int .i64 N))
        (first | assumption | exact ⟨(Upd.refl (fun _ => False) _).drew.cell c1 id, (Upd.refl (fun _ => False) _).drew.cell c2 id⟩ | exact ⟨((Upd.refl (fun _ => False) _).alloc _).drew.cell c1 id, ((Upd.refl (fun _ => False) _).alloc _).drew.cell c2 id⟩ | exact ⟨x1, x2⟩)
        (first | (refine step_append_own rfl (.tmp 11) (.tmp 23) 55 rfl Tryd.underlying55 hinfo_given2 rfl (by decide) (.slice zA0 zn0 zc0) (.slice (some ⟨wr.heap.size, 0, none⟩) 1 1) (by simp [Act.eval, Act.put]) (by simp [Act.eval, Act.put]) (HO.out.same (((Upd.refl _ wr).alloc _).drew)) ((Rdr.box wr [.int .u64 lba, .int .i64 N] 101 (0, 0) wr.heap.size rfl 2 rfl).same (Upd.refl _ _).drew) (by simp; exact ⟨rfl, rfl⟩) (by have := HSZ.out; simp; omega) i 1 HLN.out rfl (by omega) (by omega) ?_; intro v9 w9 hf9 hu9 hr9; have hs09 := Same.into ((HS.out.alloc (.cells #[.int .u64 lba, .int .i64 N] 101)).drew) hu9 (fun k hk => HBR.out k hk); have x1 := hu9.cell (((Upd.refl (fun _ => False) wr).alloc _).drew.cell c1 id) (fun e => by have := HBR.out b e; omega); have x2 := hu9.cell (((Upd.refl (fun _ => False) wr).alloc _).drew.cell c2 id) (fun e => by have := HBR.out b e; omega)))
      all_goals
        rw [← HTK.out] at hf9
        have H9 : Hid (Own w.heap.size w9 v9 2 ((l.take (i + 1)).flatMap rgC) ∧ Same w w9) := ⟨hf9, hs09⟩
        clear hf9 hs09 hu9 hr9 x1 x2
        go_wp2_with fail
        go_roundw
        case rel => exact ⟨i + 1, by omega, by go_num, H9⟩
        case measure => simp [intOf]; omega
    · obtain rfl : i = l.length := by omega
      obtain ⟨ho, hs⟩ := hin.out
      rw [List.take_length] at ho
      have HO := Lib.hid ho
      have HS := Lib.hid hs
      clear ho hs hin
      go_wp2_with fail
      go_ret
      exact ⟨_, rfl, HO.out, HS.out⟩
theorem hinfo_taken2 : (Tryd.prog.info? 102).map (fun i => (i.zero, i.size, i.bytes)) = some (some (.agg #[.int .u64 0, .int .i64 0]), 2, 16) := by kernel_rfl
theorem taken2_any (v : Value) (l : List Rg) (w : World) (h : Rdr w v 2 (l.flatMap rgC)) (hl : l.length ≤ 8796093022208) :
    Calls Tryd.prog 34 #[v] w fun e w' => ∃ v', e = .returned v' ∧ Own w.heap.size w' v' 2 (l.flatMap rgC) ∧ Same w w' := by
  obtain ⟨A, cap, rfl, k1, k2, hcells⟩ := rdr_rg h
  have HC := Lib.hid hcells
  clear h hcells
  go_enter Tryd.func34, Tryd.ntmps34
  go_wp2_with fail
  go_loopw [3, 4] (fun v3 v4 wr => ∃ i : Nat, i ≤ l.length ∧ v4 = .int .i64 i ∧ Hid (Own w.heap.size wr v3 2 ((l.take i).flatMap rgC) ∧ Same w wr)) (fun _ v4 _ => l.length - (intOf v4).toNat)
  case atStart => exact ⟨0, by omega, rfl, Own.nil _ _ _, Upd.refl _ w⟩
  case round =>
    obtain ⟨i, hi, rfl, hin⟩ := hrel
    by_cases hlt : i < l.length
    · have gi : (i : Int) < (l.length : Int) := by omega
      obtain ⟨b, off, rfl, c1, c2⟩ := HC.out i hlt
      obtain ⟨ho, hs⟩ := hin.out
      have hbl : b < w.heap.size := cell_lt' c1
      replace c1 := hs.cell c1 id
      replace c2 := hs.cell c2 id
      have hbr : ∀ k, room u3 = some k → w.heap.size ≤ k := fun k hk => (ho.ge (by decide) k hk).1
      have htk : (l.take (i + 1)).flatMap rgC = (l.take i).flatMap rgC ++ [.int .u64 l[i].1, .int .i64 l[i].2] := by
        rw [List.take_succ_eq_append_getElem hlt, List.flatMap_append]; simp [rgC]
      have HTK := Lib.hid htk
      have hln : ((l.take i).flatMap rgC).length = i * 2 := by rw [flat_len, List.length_take, Nat.min_eq_left (by omega)]
      have HLN := Lib.hid hln
      generalize l[i].1 = lba at c1 HTK
      generalize l[i].2 = N at c2 HTK
      have HO := Lib.hid ho
      have HS := Lib.hid hs
      have HBR := Lib.hid hbr
      have HSZ := Lib.hid hs.size
      clear htk hln ho hs hin hbr
      obtain ⟨zA0, zn0, zc0, hz0, -⟩ := Own.open_ HO.out
      subst hz0
      go_wp2_with fail
      go_region_held3 (fun w' => w'.cell? ⟨b, off + i * 2, none⟩ = some (.int .u64 lba) ∧ w'.cell? ⟨b, off + i * 2 + 1, none⟩ = some (.int .i64 N))
        (first | assumption | exact ⟨(Upd.refl (fun _ => False) _).drew.cell c1 id, (Upd.refl (fun _ => False) _).drew.cell c2 id⟩ | exact ⟨((Upd.refl (fun _ => False) _).alloc _).drew.cell c1 id, ((Upd.refl (fun _ => False) _).alloc _).drew.cell c2 id⟩ | exact ⟨x1, x2⟩)
        (first | (refine step_append_own rfl (.tmp 11) (.tmp 23) 53 rfl Tryd.underlying53 hinfo_taken2 rfl (by decide) (.slice zA0 zn0 zc0) (.slice (some ⟨wr.heap.size, 0, none⟩) 1 1) (by simp [Act.eval, Act.put]) (by simp [Act.eval, Act.put]) (HO.out.same (((Upd.refl _ wr).alloc _).drew)) ((Rdr.box wr [.int .u64 lba, .int .i64 N] 102 (0, 0) wr.heap.size rfl 2 rfl).same (Upd.refl _ _).drew) (by simp; exact ⟨rfl, rfl⟩) (by have := HSZ.out; simp; omega) i 1 HLN.out rfl (by omega) (by omega) ?_; intro v9 w9 hf9 hu9 hr9; have hs09 := Same.into ((HS.out.alloc (.cells #[.int .u64 lba, .int .i64 N] 102)).drew) hu9 (fun k hk => HBR.out k hk); have x1 := hu9.cell (((Upd.refl (fun _ => False) wr).alloc _).drew.cell c1 id) (fun e => by have := HBR.out b e; omega); have x2 := hu9.cell (((Upd.refl (fun _ => False) wr).alloc _).drew.cell c2 id) (fun e => by have := HBR.out b e; omega)))
      all_goals
        rw [← HTK.out] at hf9
        have H9 : Hid (Own w.heap.size w9 v9 2 ((l.take (i + 1)).flatMap rgC) ∧ Same w w9) := ⟨hf9, hs09⟩
        clear hf9 hs09 hu9 hr9 x1 x2
        go_wp2_with fail
        go_roundw
        case rel => exact ⟨i + 1, by omega, by go_num, H9⟩
        case measure => simp [intOf]; omega
    · obtain rfl : i = l.length := by omega
      obtain ⟨ho, hs⟩ := hin.out
      rw [List.take_length] at ho
      have HO := Lib.hid ho
      have HS := Lib.hid hs
      clear ho hs hin
      go_wp2_with fail
      go_ret
      exact ⟨_, rfl, HO.out, HS.out⟩
theorem sameRanges_any (v u : Value) (l : List Rg) (w : World) (h : Rdr w v 2 (l.flatMap rgC)) (h' : Rdr w u 2 (l.flatMap rgC)) (hl : l.length ≤ 8796093022208) :
    Calls Tryd.prog 33 #[v, u] w fun e w' => e = .returned (.bool true) ∧ Same w w' := by
  obtain ⟨A, cap, rfl, k1, k2, hcells⟩ := rdr_rg h
  obtain ⟨A', cap', rfl, k1', k2', hcells'⟩ := rdr_rg h'
  have HC := Lib.hid hcells
  have HC' := Lib.hid hcells'
  clear h h' hcells hcells'
  go_enter Tryd.func33, Tryd.ntmps33
  go_wp2_with fail
  go_loopw [5] (fun v5 wr => ∃ i : Nat, i ≤ l.length ∧ v5 = .int .i64 i ∧ Hid (Same w wr)) (fun v5 _ => l.length - (intOf v5).toNat)
  case atStart => exact ⟨0, by omega, rfl, Upd.refl _ w⟩
  case round =>
    obtain ⟨i, hi, rfl, hin⟩ := hrel
    by_cases hlt : i < l.length
    · have gi : (i : Int) < (l.length : Int) := by omega
      obtain ⟨b, off, rfl, c1, c2⟩ := HC.out i hlt
      obtain ⟨b', off', rfl, c1', c2'⟩ := HC'.out i hlt
      replace c1 := hin.out.cell c1 id
      replace c2 := hin.out.cell c2 id
      replace c1' := hin.out.cell c1' id
      replace c2' := hin.out.cell c2' id
      generalize l[i].1 = lba at c1 c1'
      generalize l[i].2 = N at c2 c2'
      go_wp2_with fail
      go_quiet (fail)
      go_wp2_with fail
      go_roundw
      case rel => exact ⟨i + 1, by omega, by go_num, hin.out.drewN nq⟩
      case measure => simp [intOf]; omega
    · obtain rfl : i = l.length := by omega
      go_wp2_with fail
      go_ret
      exact ⟨rfl, hin.out⟩
end Go.Proofs.YtmaofhiapkfoaaaDoor
