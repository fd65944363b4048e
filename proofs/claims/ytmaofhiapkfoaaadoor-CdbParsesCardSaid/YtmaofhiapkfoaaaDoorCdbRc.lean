/- The reference's Build. -/
import Derived.Test.YtmaofhiapkfoaaaDoorCdbRb
import Derived.Test.YtmaofhiapkfoaaaDoorCdbB
import Derived.Deep.RegionHeld3
import Derived.Deep.RegionLaw
namespace Go.Proofs.YtmaofhiapkfoaaaDoor
open Go.RowKit
set_option linter.unusedVariables false
set_option linter.unusedSimpArgs false
set_option maxRecDepth 100000
/-- What 'bad' is behind i fields. -/
def badN (k : Nat) (v : Nat → Int) (i : Nat) : Int := if anyB (fun i => tooB k i (v i)) i then 3 else if anyB (fun i => oddB k i (v i)) i then 11 else 0
/-- The state of the loop behind i fields. -/
def RIn (w wr : World) (k : Nat) (v : Nat → Int) (P V : Nat) (v9 : Value) (i : Nat) (bad : Int) : Prop :=
  ∃ bs, Fresh w.heap.size wr v9 bs ∧ bs.length = 16 ∧ (∀ j, j < 18 → wr.cell? ⟨P, j, none⟩ = some (.int .i64 (tb k (1 + j)))) ∧ (∀ j, j < 6 → wr.cell? ⟨V, j, none⟩ = some (.int .u64 (v j))) ∧ Same w wr ∧ bad = badN k v i ∧ (anyB (fun i => tooB k i (v i)) i = false → bs = bAt k v i)
theorem badN_cases (k : Nat) (v : Nat → Int) (i : Nat) : badN k v i = 0 ∨ badN k v i = 3 ∨ badN k v i = 11 := by
  unfold badN
  split
  · omega
  · split <;> omega
theorem tooP_eq (k i : Nat) (n : Int) (hs : pSz k i ≠ 0) : tooP (pSz k i) (pBt k i) n = tooB k i n := by
  have hne : (pSz k i == 0) = false := by simpa using hs
  unfold tooP tooB
  rw [hne]
  simp
theorem rin_step {w wr w' : World} {k : Nat} {v : Nat → Int} {P V : Nat} {v9 v9' : Value} {i : Nat} {bad bs} (h1 : Fresh w.heap.size wr v9 bs) (h2 : bs.length = 16) (h3 : ∀ j, j < 18 → wr.cell? ⟨P, j, none⟩ = some (.int .i64 (tb k (1 + j)))) (h4 : ∀ j, j < 6 → wr.cell? ⟨V, j, none⟩ = some (.int .u64 (v j))) (h5 : Same w wr) (h6 : bad = badN k v i) (h7 : anyB (fun i => tooB k i (v i)) i = false → bs = bAt k v i)
    (hk : k < 14) (hi : i < 6) (E : Int) (hE : E = putPE (pSz k i) (pBt k i) (v i)) (hq : PutQ wr w' v9 v9' (pSz k i) E (putL bs (pAt k i) (pSz k i) (v i))) :
    (E = 3 ∧ RIn w w' k v P V v9 (i + 1) 3) ∨ (E = 11 ∧ RIn w w' k v P V v9 (i + 1) (if bad = 0 then 11 else bad)) ∨ (E = 0 ∧ RIn w w' k v P V v9' (i + 1) bad) := by
  obtain ⟨hs, hq⟩ := hq
  have c3 := fun j hj => hs.cell (h3 j hj) id
  have c4 := fun j hj => hs.cell (h4 j hj) id
  have c5 := Same.trans h5 hs
  have c1 := h1.same hs
  have hany : anyB (fun i => tooB k i (v i)) (i + 1) = (anyB (fun i => tooB k i (v i)) i || tooB k i (v i)) := rfl
  have hany2 : anyB (fun i => oddB k i (v i)) (i + 1) = (anyB (fun i => oddB k i (v i)) i || oddB k i (v i)) := rfl
  by_cases hz : pSz k i = 0
  · have ht : tooB k i (v i) = false := by simp [tooB, hz]
    rw [ht, Bool.or_false] at hany
    have hb : bAt k v (i + 1) = bAt k v i := by
      show (if pSz k i = 0 then bAt k v i else _) = _
      rw [if_pos hz]
    by_cases hn : v i = 0
    · have ho : oddB k i (v i) = false := by simp [oddB, hz, hn]
      rw [ho, Bool.or_false] at hany2
      have hE0 : E = 0 := by rw [hE]; unfold putPE; rw [if_pos hz, if_pos hn]
      refine .inr (.inr ⟨hE0, bs, ?_, h2, c3, c4, c5, ?_, ?_⟩)
      · rcases hq hE0 with ⟨_, rfl⟩ | ⟨h, _⟩
        · exact c1
        · exact absurd hz h
      · rw [h6]; unfold badN; rw [hany, hany2]
      · rw [hany, hb]; exact h7
    · have ho : oddB k i (v i) = true := by simp [oddB, hz, hn]
      rw [ho, Bool.or_true] at hany2
      have hE11 : E = 11 := by rw [hE]; unfold putPE; rw [if_pos hz, if_neg hn]
      refine .inr (.inl ⟨hE11, bs, c1, h2, c3, c4, c5, ?_, ?_⟩)
      · rw [h6]; unfold badN; rw [hany, hany2]
        cases anyB (fun i => tooB k i (v i)) i
        · cases anyB (fun i => oddB k i (v i)) i <;> simp
        · simp
      · rw [hany, hb]; exact h7
  · have ho : oddB k i (v i) = false := by simp [oddB, hz]
    rw [ho, Bool.or_false] at hany2
    have hE' : E = if tooB k i (v i) then 3 else 0 := by rw [hE]; unfold putPE; rw [if_neg hz, tooP_eq k i _ hz]
    cases ht : tooB k i (v i) with
    | true =>
      rw [ht] at hE' hany
      rw [Bool.or_true] at hany
      refine .inl ⟨by simpa using hE', bs, c1, h2, c3, c4, c5, ?_, ?_⟩
      · unfold badN; rw [hany]; rfl
      · rw [hany]; intro h; cases h
    | false =>
      rw [ht] at hE' hany
      rw [Bool.or_false] at hany
      have hE0 : E = 0 := by simpa using hE'
      have hfit : fitsB (v i) (pSz k i) = true := by
        have hne : (pSz k i == 0) = false := by simpa using hz
        unfold tooB at ht
        rw [hne] at ht
        simp at ht
        exact ht.2
      have hpl := (place_fit k hk i hi).resolve_left (fun h => hz h.1)
      have hth : thereB bs.length (pAt k i) (pSz k i) = true := by unfold thereB; rw [h2]; simp; omega
      refine .inr (.inr ⟨hE0, putL bs (pAt k i) (pSz k i) (v i), ?_, ?_, c3, c4, c5, ?_, ?_⟩)
      · rcases hq hE0 with ⟨h, _⟩ | ⟨_, h⟩
        · exact absurd h hz
        · exact h.mono h5.size
      · unfold putL; rw [hth, hfit]; simp [numB_length, h2]; omega
      · rw [h6]; unfold badN; rw [hany, hany2]
      · rw [hany]
        intro h
        have := h7 h
        show _ = if pSz k i = 0 then bAt k v i else _
        rw [if_neg hz, ← this]
theorem rin_end {w wr : World} {k : Nat} {v : Nat → Int} {P V : Nat} {v9 : Value} {bad : Int} (h : RIn w wr k v P V v9 6 bad) : buildK k v = bad ∧ Same w wr ∧ (bad = 0 → Fresh w.heap.size wr v9 (bAt k v 6)) := by
  obtain ⟨bs, h1, h2, h3, h4, h5, h6, h7⟩ := h
  refine ⟨by rw [h6]; rfl, h5, fun h0 => ?_⟩
  have : anyB (fun i => tooB k i (v i)) 6 = false := by
    cases ha : anyB (fun i => tooB k i (v i)) 6 with
    | false => rfl
    | true => rw [h6] at h0; unfold badN at h0; rw [ha] at h0; simp at h0
  rw [← h7 this]
  exact h1
theorem pcells (W : World) (k : Nat) (t : TypeId) : ∀ j, j < 18 → (W.alloc (.cells (plcA k) t)).cell? ⟨W.heap.size, j, none⟩ = some (.int .i64 (tb k (1 + j))) := by
  intro j hj
  rw [cell_of_row _ _ j (plcA k) t (0, 0) (heap_alloc_new W _)]
  cases h : (plcA k)[j]? with
  | none =>
    have : (plcA k).size ≤ j := Array.getElem?_eq_none_iff.1 h
    have h18 : (plcA k).size = 18 := rfl
    omega
  | some u =>
    obtain ⟨_, rfl⟩ := plcA_get k j u (by simpa using h)
    rfl
theorem made_first (op : Int) (k : Nat) (v : Nat → Int) (hop : tb k 0 = op) (hob : 0 ≤ op ∧ op ≤ 255) (j : Nat) (u : Value) (h : ((bAt k v 0).map B)[j]? = some u) : ((madeCells #[.int .u8 0] 16).setIfInBounds 0 (.int .u8 op))[j]? = some u := by
  obtain ⟨hj, rfl⟩ := B_get h
  have hl : (bAt k v 0).length = 16 := by simp [bAt]
  rw [hl] at hj
  by_cases h0 : j = 0
  · subst h0
    have hsz : (madeCells #[Value.int .u8 0] 16).size = 16 := by kernel_rfl
    rw [Array.getElem?_setIfInBounds_self_of_lt (by omega)]
    unfold bAt at8
    rw [hop]
    simp
    omega
  · rw [Array.getElem?_setIfInBounds_ne (by omega), made_at 16 j hj]
    unfold bAt at8
    obtain ⟨m, rfl⟩ : ∃ m, j = m + 1 := ⟨j - 1, by omega⟩
    have hz : ∀ (n m : Nat), ((List.replicate n (0 : UInt8)).getD m 0) = 0 := by
      intro n m
      rw [List.getD_eq_getElem?_getD, List.getElem?_replicate]
      split <;> rfl
    rw [List.getD_cons_succ, hz, hz]
theorem wp_gen {P : Program} {c : Code} {Q : Exit → Act → World → Prop} {a : Act} {W : World} (h : ∀ w3, w3 = W → c.wp P Q a w3) : c.wp P Q a W := h W rfl
theorem pv_cells (w1 : World) (k : Nat) (v : Nat → Int) (A vs : Array Value) (tr tp tv : TypeId) (hvs : ∀ j, j < 6 → vs[j]? = some (.int .u64 (v j))) (w3 : World) (hw : w3 = ((w1.alloc (.cells A tr)).alloc (.cells (plcA k) tp)).alloc (.cells vs tv)) :
    (∀ j, j < 18 → w3.cell? ⟨w1.heap.size + 1, j, none⟩ = some (.int .i64 (tb k (1 + j)))) ∧ (∀ j, j < 6 → w3.cell? ⟨w1.heap.size + 1 + 1, j, none⟩ = some (.int .u64 (v j))) ∧ Same w1 w3 ∧ w3.heap.size = w1.heap.size + 1 + 1 + 1 := by
  subst hw
  have e1 : (w1.alloc (.cells A tr)).heap.size = w1.heap.size + 1 := by simp
  have e2 : ((w1.alloc (.cells A tr)).alloc (.cells (plcA k) tp)).heap.size = w1.heap.size + 1 + 1 := by simp
  refine ⟨?_, ?_, (((Upd.refl _ w1).alloc _).alloc _).alloc _, by simp⟩
  · intro j hj
    have := pcells (w1.alloc (.cells A tr)) k tp j hj
    rw [e1] at this
    exact ((Upd.refl (fun _ => False) _).alloc _).cell this id
  · intro j hj
    rw [← e2, cell_of_row _ _ j vs tv (0, 0) (heap_alloc_new _ _)]
    exact hvs j hj
theorem rin_start {w w3 : World} {k : Nat} {v : Nat → Int} {op : Int} {P V : Nat} (hP : ∀ j, j < 18 → w3.cell? ⟨P, j, none⟩ = some (.int .i64 (tb k (1 + j)))) (hV : ∀ j, j < 6 → w3.cell? ⟨V, j, none⟩ = some (.int .u64 (v j))) (hop : tb k 0 = op) (hob : 0 ≤ op ∧ op ≤ 255) (hs : Same w w3) :
    RIn w (w3.alloc (.cells ((madeCells #[.int .u8 0] 16).setIfInBounds 0 (.int .u8 op)) 5)) k v P V (.slice (some ⟨w3.heap.size, 0, none⟩) 16 16) 0 0 := by
  refine ⟨bAt k v 0, ?_, by simp [bAt], ?_, ?_, hs.alloc _, rfl, fun _ => rfl⟩
  · exact Own.lit w3 _ 5 ((bAt k v 0).map B) _ 16 16 1 w.heap.size rfl hs.size (fun j u hj => made_first op k v hop hob j u hj) (by simp [bAt]) (by omega) (by omega) (by kernel_rfl)
  · exact fun j hj => ((Upd.refl (fun _ => False) _).alloc _).cell (hP j hj) id
  · exact fun j hj => ((Upd.refl (fun _ => False) _).alloc _).cell (hV j hj) id
set_option maxHeartbeats 2000000 in
theorem rbuild_any (c : Cmd) (w : World) (h : c.ok) :
    Calls Tryd.prog 43 #[.agg c.cells] w fun e w' => ∃ v', e = .returned (.tuple #[v', .int .i64 (cE c)]) ∧ Fresh w.heap.size w' v' (cL c) ∧ Same w w' := by
  have hf := fun W => rowOf_any c.op W
  have hr := fun i => vN_range c h i
  have hopr := h.1
  have hE0 : findK c.op = none → cE c = 1 ∧ cL c = [] := fun hk => by unfold cE cL buildE buildL; rw [hk]; exact ⟨rfl, rfl⟩
  have hE1 : ∀ k, findK c.op = some k → cE c = buildK k (vN c) ∧ cL c = if buildK k (vN c) = 0 then bAt k (vN c) 6 else [] := fun k hk => by unfold cE cL buildE buildL; rw [hk]; exact ⟨rfl, rfl⟩
  have hvn : vN c 0 = u64w c.service ∧ vN c 1 = (if c.vital then 1 else 0) ∧ vN c 2 = u64w c.page ∧ vN c 3 = u64w c.typ ∧ vN c 4 = c.lba ∧ vN c 5 = u64w c.len := ⟨rfl, rfl, rfl, rfl, rfl, rfl⟩
  generalize cE c = E at hE0 hE1 ⊢
  generalize cL c = L at hE0 hE1 ⊢
  generalize vN c = v at hr hE1 hvn
  unfold Cmd.cells
  clear h
  obtain ⟨op, service, page, vital, typ, lba, len⟩ := c
  simp only at hf hopr hE0 hE1 hvn ⊢
  have HR := Lib.hid hr
  have HE0 := Lib.hid hE0
  have HE1 := Lib.hid hE1
  have HVN := Lib.hid hvn
  clear hr hE0 hE1 hvn
  cases hk : findK op with
  | none =>
    obtain ⟨rfl, rfl⟩ := HE0.out hk
    unfold rowN at hf
    rw [hk] at hf
    simp only [Option.isSome_none] at hf
    have hs18 : zero18.size = 18 := rfl
    have h1c : zero18.all (·.oneCell') = true := by kernel_rfl
    generalize zero18 = A at hf hs18 h1c
    have hsz : (Tryd.prog.info? 82).map (·.size) = some A.size := by rw [hs18]; kernel_rfl
    have HSZ := Lib.hid hsz
    have HS18 := Lib.hid hs18
    have H1C := Lib.hid h1c
    have HF := Lib.hid hf
    clear hk HE0 HE1 hf hsz hs18 h1c
    go_enter Tryd.func43, Tryd.ntmps43
    go_wp2_with (first | (with_reducible refine (HF.out _).mono ?_; rintro e w1 ⟨rfl, hs1⟩) | (refine wpList_store_new rfl 82 (.tmp 4) (.tmp 18) rfl rfl w1 _ A 82 rfl rfl rfl HSZ.out (by rw [HS18.out]; rfl) H1C.out ?_))
    go_ret2
    exact ⟨_, rfl, Fresh.nil _ _, (Same.trans ((Upd.refl (fun _ => False) w).alloc _) hs1).alloc _⟩
  | some k =>
    obtain ⟨hk14, hko⟩ := findK_some hk
    obtain ⟨hE, hL⟩ := HE1.out k hk
    have hob := tb_i64 k hk14 0 (by omega)
    rw [hko] at hob
    unfold rowN at hf
    rw [hk] at hf
    simp only [Option.isSome_some] at hf
    have HE := Lib.hid hE
    have HL := Lib.hid hL
    have HKO := Lib.hid hko
    have hpd : plcA k = #[.int .i64 (tb k 1), .int .i64 (tb k 2), .int .i64 (tb k 3), .int .i64 (tb k 4), .int .i64 (tb k 5), .int .i64 (tb k 6), .int .i64 (tb k 7), .int .i64 (tb k 8), .int .i64 (tb k 9), .int .i64 (tb k 10), .int .i64 (tb k 11), .int .i64 (tb k 12), .int .i64 (tb k 13), .int .i64 (tb k 14), .int .i64 (tb k 15), .int .i64 (tb k 16), .int .i64 (tb k 17), .int .i64 (tb k 18)] := rfl
    have hs18 : (plcA k).size = 18 := rfl
    have h1c : (plcA k).all (·.oneCell') = true := by kernel_rfl
    generalize plcA k = A at hf hs18 h1c hpd
    have hsz : (Tryd.prog.info? 82).map (·.size) = some A.size := by rw [hs18]; kernel_rfl
    have HSZ := Lib.hid hsz
    have HS18 := Lib.hid hs18
    have H1C := Lib.hid h1c
    have HF := Lib.hid hf
    have HPD := Lib.hid hpd
    clear hk HE0 HE1 hf hsz hs18 h1c hE hL hko hpd
    cases vital
    all_goals
      go_enter Tryd.func43, Tryd.ntmps43
      go_upto_region 4 with (first | (with_reducible refine (HF.out _).mono ?_; rintro e w1 ⟨rfl, hs1⟩) | (refine wpList_store_new rfl 82 (.tmp 4) (.tmp 18) rfl rfl w1 _ A 82 rfl rfl rfl HSZ.out (by rw [HS18.out]; rfl) H1C.out ?_))
      obtain ⟨q0, q1, q2, q3, q4, q5, q6⟩ := box7 w 24 _ _ _ _ _ _ _ w1 hs1
      have hz1 : w.heap.size < w1.heap.size := by have := hs1.size; simp at this; omega
      have a0 : A[0]? = some (.int .i64 (tb k 1)) := by rw [HPD.out]; rfl
      have a1 : A[1]? = some (.int .i64 (tb k 2)) := by rw [HPD.out]; rfl
      have a2 : A[2]? = some (.int .i64 (tb k 3)) := by rw [HPD.out]; rfl
      have a3 : A[3]? = some (.int .i64 (tb k 4)) := by rw [HPD.out]; rfl
      have a4 : A[4]? = some (.int .i64 (tb k 5)) := by rw [HPD.out]; rfl
      have a5 : A[5]? = some (.int .i64 (tb k 6)) := by rw [HPD.out]; rfl
      have a6 : A[6]? = some (.int .i64 (tb k 7)) := by rw [HPD.out]; rfl
      have a7 : A[7]? = some (.int .i64 (tb k 8)) := by rw [HPD.out]; rfl
      have a8 : A[8]? = some (.int .i64 (tb k 9)) := by rw [HPD.out]; rfl
      have a9 : A[9]? = some (.int .i64 (tb k 10)) := by rw [HPD.out]; rfl
      have a10 : A[10]? = some (.int .i64 (tb k 11)) := by rw [HPD.out]; rfl
      have a11 : A[11]? = some (.int .i64 (tb k 12)) := by rw [HPD.out]; rfl
      have a12 : A[12]? = some (.int .i64 (tb k 13)) := by rw [HPD.out]; rfl
      have a13 : A[13]? = some (.int .i64 (tb k 14)) := by rw [HPD.out]; rfl
      have a14 : A[14]? = some (.int .i64 (tb k 15)) := by rw [HPD.out]; rfl
      have a15 : A[15]? = some (.int .i64 (tb k 16)) := by rw [HPD.out]; rfl
      have a16 : A[16]? = some (.int .i64 (tb k 17)) := by rw [HPD.out]; rfl
      have a17 : A[17]? = some (.int .i64 (tb k 18)) := by rw [HPD.out]; rfl
      have HS1 := Lib.hid hs1
      clear hs1
      go_upto_region 8 with (fail)
      have hmk := fun W => make_bytes (P := Tryd.prog) 25 5 Tryd.underlying25 (by kernel_rfl) 16 (by decide) W
      simp only [show ((16 : Nat) : Int) = 16 from rfl] at hmk
      have x0 : IntKind.u64.wrap service = v 0 := by rw [HVN.out.1, wrapU]
      have x2 : IntKind.u64.wrap page = v 2 := by rw [HVN.out.2.2.1, wrapU]
      have x3 : IntKind.u64.wrap typ = v 3 := by rw [HVN.out.2.2.2.1, wrapU]
      have x5 : IntKind.u64.wrap len = v 5 := by rw [HVN.out.2.2.2.2.2, wrapU]
      go_upto_region 9 with (fail)
      refine wp_gen fun w3 hw3 => ?_
      obtain ⟨hP, hV, hs13, hsz3⟩ := pv_cells w1 k v A #[.int .u64 (v 0), .int .u64 (v 1), .int .u64 (v 2), .int .u64 (v 3), .int .u64 (v 4), .int .u64 (v 5)] 82 80 22 (fun j hj => by
        rcases (show j = 0 ∨ j = 1 ∨ j = 2 ∨ j = 3 ∨ j = 4 ∨ j = 5 by omega) with rfl | rfl | rfl | rfl | rfl | rfl <;> rfl) w3 (by rw [hw3, HVN.out.2.1, HVN.out.2.2.2.2.1]; rfl)
      replace q0 := hs13.cell q0 id
      have hs3 := Same.trans (Same.trans ((Upd.refl (fun _ => False) w).alloc _) HS1.out) hs13
      have hst := rin_start hP hV HKO.out hob hs3
      have hfr0 := Own.lit w3 (madeCells #[.int .u8 0] 16) 5 ((List.replicate 16 (0 : UInt8)).map B) w3.heap.size 16 16 1 w.heap.size rfl hs3.size (fun j u hj => by
        obtain ⟨hj', rfl⟩ := B_get hj
        exact made_at 16 j (by simpa using hj')) (by simp) (by omega) (by omega) (by kernel_rfl)
      obtain ⟨hc00, hc01⟩ := Fresh.at_ (xs := List.replicate 16 0) hfr0 0 (by decide)
      rw [zeros_at 16 0 (by decide)] at hc00
      simp only [Nat.zero_add] at hc00 hc01
      have hz3 : w.heap.size < w3.heap.size := by omega
      have HST := Lib.hid hst
      clear a0 a1 a2 a3 a4 a5 a6 a7 a8 a9 a10 a11 a12 a13 a14 a15 a16 a17 x0 x2 x3 x5 q1 q2 q3 q4 q5 q6 hw3 hP hV hs13 hs3 hst hfr0 hsz3
      go_wp2_with fail
      generalize w1.heap.size + 1 + 1 = V at HST ⊢
      generalize w1.heap.size + 1 = P at HST ⊢
      clear hmk hc00 hc01 q0 hz3 hz1 HF HPD HSZ HS18 H1C HS1
      go_loopw [9, 10, 11] (fun v9 v10 v11 wr => ∃ (i : Nat) (bad : Int), i ≤ 6 ∧ v11 = .int .i64 i ∧ v10 = .int .i64 bad ∧ RIn w wr k v P V v9 i bad) (fun _ _ v11 _ => 6 - (intOf v11).toNat)
      case atStart => exact ⟨0, 0, by omega, rfl, rfl, HST.out⟩
      case round =>
        obtain ⟨i, bad, hi, rfl, rfl, hin⟩ := hrel
        by_cases hlt : i < 6
        · have g0 : (i : Int) < 6 := by omega
          have g1 : i < 6 := hlt
          obtain ⟨bs, h1, h2, h3, h4, h5, h6, h7⟩ := hin
          have d1 : wr.cell? ⟨P, i * 3, none⟩ = some (.int .i64 (pAt k i)) := by rw [h3 (i * 3) (by omega), show 1 + i * 3 = 3 * i + 1 by omega]; rfl
          have d2 : wr.cell? ⟨P, i * 3 + 1, none⟩ = some (.int .i64 (pSz k i)) := by rw [h3 (i * 3 + 1) (by omega), show 1 + (i * 3 + 1) = 3 * i + 2 by omega]; rfl
          have d3 : wr.cell? ⟨P, i * 3 + 2, none⟩ = some (.int .i64 (pBt k i)) := by rw [h3 (i * 3 + 2) (by omega), show 1 + (i * 3 + 2) = 3 * i + 3 by omega]; rfl
          have d4 := h4 i hlt
          have hpl := place_fit k hk14 i hlt
          obtain ⟨r1, r2⟩ := HR.out i
          have hput := fun W h => rputp_any u9 bs (pAt k i) (pSz k i) (pBt k i) (v i) W h h2 (by omega) (by omega) (by omega) ⟨r1, r2⟩
          have hstep := fun w' v9' => rin_step (w' := w') (v9' := v9') h1 h2 h3 h4 h5 h6 h7 hk14 hlt _ rfl
          have hbs := h1.bs
          generalize putPE (pSz k i) (pBt k i) (v i) = E' at hput hstep
          generalize pAt k i = pa at d1 hput hstep
          generalize pSz k i = ps at d2 hput hstep
          generalize pBt k i = pb at d3 hput hstep
          generalize v i = n at d4 hput hstep
          have hbad := badN_cases k v i
          rw [← h6] at hbad
          have HPUT := Lib.hid hput
          have HSTEP := Lib.hid hstep
          have HBS := Lib.hid hbs
          have HBAD := Lib.hid hbad
          clear h1 h2 h3 h4 h5 h6 h7 hput hstep hbs hbad hpl r1 r2
          go_wp2_with fail
          go_region_held3 (fun w' => Same wr w' ∧ w'.cell? ⟨P, i * 3, none⟩ = some (.int .i64 pa) ∧ w'.cell? ⟨P, i * 3 + 1, none⟩ = some (.int .i64 ps) ∧ w'.cell? ⟨P, i * 3 + 2, none⟩ = some (.int .i64 pb) ∧ w'.cell? ⟨V, i, none⟩ = some (.int .u64 n))
            (first | assumption | exact ⟨(Upd.refl _ _).drew, (Upd.refl (fun _ => False) _).drew.cell d1 id, (Upd.refl (fun _ => False) _).drew.cell d2 id, (Upd.refl (fun _ => False) _).drew.cell d3 id, (Upd.refl (fun _ => False) _).drew.cell d4 id⟩ | exact ⟨hs5, x1, x2, x3, x4⟩)
            (first | (go_at_call 60; refine (HPUT.out _ (HBS.out.same ((Upd.refl _ wr).drew))).mono ?_; rintro e w5 ⟨v5, rfl, hq5⟩; have hs5 := Same.trans ((Upd.refl (fun _ => False) wr).drew) hq5.1; have x1 := hs5.cell d1 id; have x2 := hs5.cell d2 id; have x3 := hs5.cell d3 id; have x4 := hs5.cell d4 id))
          rcases HSTEP.out w5 v5 ⟨hs5, hq5.2⟩ with ⟨rfl, hR⟩ | ⟨rfl, hR⟩ | ⟨rfl, hR⟩
          · have H5 := Lib.hid hR
            clear hR hq5 hs5 x1 x2 x3 x4 HSTEP HPUT HBS
            go_wp2_with fail
            go_roundw
            case rel => exact ⟨i + 1, 3, by omega, by go_num, rfl, H5.out⟩
            case measure => simp [intOf]; omega
          · rcases HBAD.out with rfl | rfl | rfl
            · have H5 : Hid (RIn w w5 k v P V u9 (i + 1) 11) := hR
              clear hR hq5 hs5 x1 x2 x3 x4 HSTEP HPUT HBS
              go_wp2_with fail
              go_roundw
              case rel => exact ⟨i + 1, 11, by omega, by go_num, rfl, H5.out⟩
              case measure => simp [intOf]; omega
            · have H5 : Hid (RIn w w5 k v P V u9 (i + 1) 3) := hR
              clear hR hq5 hs5 x1 x2 x3 x4 HSTEP HPUT HBS
              go_wp2_with fail
              go_roundw
              case rel => exact ⟨i + 1, 3, by omega, by go_num, rfl, H5.out⟩
              case measure => simp [intOf]; omega
            · have H5 : Hid (RIn w w5 k v P V u9 (i + 1) 11) := hR
              clear hR hq5 hs5 x1 x2 x3 x4 HSTEP HPUT HBS
              go_wp2_with fail
              go_roundw
              case rel => exact ⟨i + 1, 11, by omega, by go_num, rfl, H5.out⟩
              case measure => simp [intOf]; omega
          · have H5 := Lib.hid hR
            clear hR hq5 hs5 x1 x2 x3 x4 HSTEP HPUT HBS
            go_wp2_with fail
            go_roundw
            case rel => exact ⟨i + 1, bad, by omega, by go_num, rfl, H5.out⟩
            case measure => simp [intOf]; omega
        · obtain rfl : i = 6 := by omega
          obtain ⟨b1, b2, b3⟩ := rin_end hin
          have hE := HE.out
          have hL := HL.out
          rw [b1] at hE hL
          have B3 := Lib.hid b3
          have HBAD := badN_cases k v 6
          have hbb : bad = badN k v 6 := by rw [← b1]; rfl
          rw [← hbb] at HBAD
          subst hE
          clear HE HL hin b1 b3 hbb HR HVN HST
          by_cases h0 : E = 0
          · subst h0
            rw [if_pos rfl] at hL
            subst hL
            go_wp2_with fail
            go_ret2
            exact ⟨_, rfl, B3.out (by trivial), b2⟩
          · have hne : (E != 0) = true := by simpa using h0
            rw [if_neg h0] at hL
            subst hL
            clear h0
            go_wp2_with fail
            go_ret2
            exact ⟨_, rfl, Fresh.nil _ _, b2⟩
end Go.Proofs.YtmaofhiapkfoaaaDoor
