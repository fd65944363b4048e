/- The walk of PduTells. -/
import Derived.Test.YtfafepmghcobdaaPduJ
import Derived.Test.YtfafepmghcobdaaPduI
import Derived.Test.YtfafepmghcobdaaGb
import Derived.Test.YtfafepmghcobdaaPduV
import Derived.Test.YtfafepmghcobdaaPduF0
import Derived.Test.YtfafepmghcobdaaOrdT
import Derived.Test.YtfafepmghcobdaaPduG
import Derived.Test.YtfafepmghcobdaaTurn
import Derived.OpenShut
import Derived.Test.YtfafepmghcobdaaOpenPd
import Derived.Deep.CutRange
import Derived.Deep.CutBlock
import Derived.Deep.Cut
import Derived.Deep.DeepCutAuto
import Derived.Deep.DrawnRows
namespace Go.Proofs.Ytfafepmghcobdaa
open Go.RowKit
set_option linter.unusedVariables false
set_option linter.unusedSimpArgs false
set_option maxRecDepth 100000
set_option maxHeartbeats 8000000
attribute [local go_sem ↓] Go.wp_at_zero Go.wp_at_succ
theorem test_num (B : BitVec 32) (k : Nat) : (bits BinOp.and IntKind.u32 (u32v B / 2 ^ k) 1 == 1) = B.getLsbD k := by
  have h1 : (1 : Int) = u32v 1#32 := by decide
  have h2 : u32v B / (2 : Int) ^ k = u32v (B >>> k) := by
    unfold u32v
    rw [BitVec.toNat_ushiftRight, Nat.shiftRight_eq_div_pow, Int.natCast_ediv, Int.natCast_pow]
    rfl
  have e : B >>> k &&& 1#32 = if B.getLsbD k then 1#32 else 0#32 := by
    apply BitVec.eq_of_getLsbD_eq
    intro i hi
    rw [BitVec.getLsbD_and, BitVec.getLsbD_ushiftRight]
    cases i with
    | zero => cases hb : B.getLsbD k <;> simp [hb]
    | succ i => cases hb : B.getLsbD k <;> simp
  have h3 : bits BinOp.and IntKind.u32 (u32v B / (2 : Int) ^ k) 1 = u32v (if B.getLsbD k then 1#32 else 0#32) := by
    rw [h2]
    conv => lhs; rw [h1]
    rw [u32_and, e]
  rw [h3]
  cases B.getLsbD k <;> decide
theorem flip_num (xs : List UInt8) (j b : Nat) (hb : b < 8) : bits BinOp.xor IntKind.u8 (at8 xs j) (2 ^ b % 256) = at8 [flip1 (xs.getD j 0) b] 0 := by
  have h1 := (xs.getD j 0).toNat_lt
  have h2 : (2 : Int) ^ b % 256 = ((2 ^ b : Nat) : Int) := by
    have : 2 ^ b < 256 := Nat.lt_of_lt_of_le (Nat.pow_lt_pow_right (by decide) hb) (by decide)
    rw [Int.natCast_pow]
    exact Int.emod_eq_of_lt (Int.pow_nonneg (by decide)) (by have := Int.ofNat_lt.2 this; rw [Int.natCast_pow] at this; exact this)
  have h3 : 2 ^ b < 256 := Nat.lt_of_lt_of_le (Nat.pow_lt_pow_right (by decide) hb) (by decide)
  unfold at8
  rw [h2, u8_xor_nat _ _ h1 h3]
  congr 1
  show _ = ((xs.getD j 0).toBitVec ^^^ (1#8 <<< b)).toNat
  rw [BitVec.toNat_xor]
  congr 1
  rw [BitVec.toNat_shiftLeft]
  simp [Nat.shiftLeft_eq]
  omega

def tO : Ag := ⟨true, true, 65536⟩
theorem raw_len {p : Pd} (hok : p.ok) (h : pduE p tO = 0) : 52 + p.data.length ≤ (rawL p tO).length ∧ (rawL p tO).length ≤ 65600 := by
  have h1 := rawL_length (o := tO) hok.2.2.1
  have h2 := (pduE_zero h).2.2.1
  have h3 := padN_lt p.data.length
  rw [h1]
  constructor
  · simp only [tO, if_true]; omega
  · split <;> split <;> omega
/-- What Next tells of bytes of which bits are turned. -/
theorem tells_all {p : Pd} (hok : p.ok) (h : pduE p tO = 0) (inD : Bool) (t : Nat) (B : BitVec 32) (k : Nat) (h32 : k ≤ 32) (hlo : (if inD then 8 * 52 else 0) ≤ t) (hk : t + k ≤ 8 * (if inD then 52 + p.data.length else 48)) (hany : anyN B k = true) :
    (Rd1.next ⟨tO, flipN (rawL p tO) t B k, false⟩).2.1 = 12 ∧ (Rd1.next ⟨tO, flipN (rawL p tO) t B k, false⟩).2.2.1 = true ∧ (Rd1.next ⟨tO, flipN (rawL p tO) t B k, false⟩).2.2.2.dead = !inD := by
  cases inD
  · simp only [Bool.false_eq_true, if_false] at hk
    have := tells_head hok.2.2.1 t B k h32 hk hany true 65536
    unfold tO
    rw [this]
    exact ⟨rfl, rfl, rfl⟩
  · simp only [if_true] at hk hlo
    obtain ⟨s, rfl⟩ : ∃ s, t = 8 * 52 + s := ⟨t - 8 * 52, by omega⟩
    have := tells_data (most := 65536) hok h s B k h32 (by omega) hany
    unfold tO
    rw [this]
    exact ⟨rfl, rfl, rfl⟩
theorem tells_none {p : Pd} (hok : p.ok) (h : pduE p tO = 0) (t : Nat) (B : BitVec 32) (k : Nat) (hany : anyN B k = false) :
    (Rd1.next ⟨tO, flipN (rawL p tO) t B k, false⟩).2.1 = 0 ∧ (Rd1.next ⟨tO, flipN (rawL p tO) t B k, false⟩).2.2.1 = true := by
  rw [flipN_none _ t B k hany]
  have := next_put hok h []
  rw [List.append_nil] at this
  rw [this]
  exact ⟨rfl, rfl⟩
theorem pduTells_walk (w : World) (p : Pd) (A : Option Addr) (n cap : Nat) (at_ : Int) (hatb : -9223372036854775808 ≤ at_ ∧ at_ ≤ 9223372036854775807) (B : BitVec 32) (inD : Bool) (hok : p.ok) (h : Bs w (.slice A n cap) p.data) (hl : p.data.length ≤ 140737488351232) :
    Calls Try.prog 5 #[pdA p (.slice A n cap), .int .i64 at_, .int .u32 (u32v B), .bool inD] w fun e w' => e = .returned (.bool true) ∧ Same w w' := by
  have hn : n = p.data.length := h.capL.1
  subst hn
  have HB := Lib.hid h
  have HOK := Lib.hid hok
  have HKN := Lib.hid (fun W => known17_any W)
  have hpb : PB w ((w.alloc (.cells #[.int .i64 p.op, .bool p.now, .int .i64 p.flags, .int .i64 p.b2, .int .i64 p.b3, .int .u64 p.lun, .int .u32 p.task, .int .u32 (wd p 0), .int .u32 (wd p 1), .int .u32 (wd p 2), .int .u32 (wd p 3), .int .u32 (wd p 4), .int .u32 (wd p 5), .int .u32 (wd p 6), .slice A p.data.length cap] 42)).alloc (.cells #[.bool true, .bool true, .int .i64 65536] 30)) p (.slice A p.data.length cap) tO := PB.init w p (.slice A p.data.length cap) tO 42 30
  clear h hok
  unfold pdA
  go_enter Try.func5, Try.ntmps5
  go_upto_region 2 with (fail)
  generalize (w.alloc (.cells #[.int .i64 p.op, .bool p.now, .int .i64 p.flags, .int .i64 p.b2, .int .i64 p.b3, .int .u64 p.lun, .int .u32 p.task, .int .u32 (wd p 0), .int .u32 (wd p 1), .int .u32 (wd p 2), .int .u32 (wd p 3), .int .u32 (wd p 4), .int .u32 (wd p 5), .int .u32 (wd p 6), .slice A p.data.length cap] 42)).alloc (.cells #[.bool true, .bool true, .int .i64 65536] 30) = w0 at hpb ⊢
  have HPB := Lib.hid hpb
  clear hpb
  go_cut [10, 11] from 22 (fun v10 v11 wx => ∃ A' n' cap', v10 = .slice A' n' cap' ∧ v11 = .int .i64 (pduE p tO) ∧ Fresh (w.heap.size + 2) wx (.slice A' n' cap') (pduL p tO) ∧ PB w wx p (.slice A p.data.length cap) tO)
  case first =>
    have hS0 : BoxAt w0.drew w.heap.size p (.slice A p.data.length cap) ∧ (∀ j u, (agC tO)[j]? = some u → w0.drew.cell? ⟨w.heap.size + 1, j, none⟩ = some u) := ⟨(HPB.out.same (Upd.refl _ _).drew).2.1, (HPB.out.same (Upd.refl _ _).drew).2.2.1⟩
    have HP0 := Lib.hid (HPB.out.same (Upd.refl _ _).drew)
    clear HPB
    refine wp_region_noPanic ?_
    refine wp_region_need (fun w' => BoxAt w' w.heap.size p (.slice A p.data.length cap) ∧ (∀ j u, (agC tO)[j]? = some u → w'.cell? ⟨w.heap.size + 1, j, none⟩ = some u)) (fun _ => true) (by kernel_rfl) (fun hcl => ?_)
    refine wpAnyN_take (i := 0) (v := ?_) rfl (by as_aux_lemma => kernel_rfl) (by as_aux_lemma => kernel_rfl) (by as_aux_lemma => kernel_rfl) (by as_aux_lemma => kernel_rfl) (fun _ _ _ h => h) (by assumption) hS0 (Or.inl ⟨by rfl, ?_⟩) (fun hcl0 => ?_)
    rotate_left
    · (intro wS hSw; (obtain ⟨hSa, hSb⟩ := hSw); (have k0 := hSa 0 _ rfl); (have k1 := hSa 1 _ rfl); (have k2 := hSa 2 _ rfl); (have k3 := hSa 3 _ rfl); (have k4 := hSa 4 _ rfl); (have k5 := hSa 5 _ rfl); (have k6 := hSa 6 _ rfl); (have k7 := hSa 7 _ rfl); (have k8 := hSa 8 _ rfl); (have k9 := hSa 9 _ rfl); (have k10 := hSa 10 _ rfl); (have k11 := hSa 11 _ rfl); (have k12 := hSa 12 _ rfl); (have k13 := hSa 13 _ rfl); (have k14 := hSa 14 _ rfl); (have q0 := hSb 0 _ rfl); (have q1 := hSb 1 _ rfl); (have q2 := hSb 2 _ rfl); go_simp; (try with_reducible rfl))
    clear hcl
    try simp only [Act.put, List.getElem_toArray, List.getElem_cons_succ, List.getElem_cons_zero, List.setIfInBounds_toArray, List.set_cons_zero, List.set_cons_succ]
    refine wpAnyN_take (i := 2) (v := ?_) rfl (by as_aux_lemma => kernel_rfl) (by as_aux_lemma => kernel_rfl) (by as_aux_lemma => kernel_rfl) (by as_aux_lemma => kernel_rfl) (fun _ _ _ h => h) (by assumption) hS0 (Or.inl ⟨by rfl, ?_⟩) (fun hcl2 => ?_)
    rotate_left
    · (intro wS hSw; (obtain ⟨hSa, hSb⟩ := hSw); (have k0 := hSa 0 _ rfl); (have k1 := hSa 1 _ rfl); (have k2 := hSa 2 _ rfl); (have k3 := hSa 3 _ rfl); (have k4 := hSa 4 _ rfl); (have k5 := hSa 5 _ rfl); (have k6 := hSa 6 _ rfl); (have k7 := hSa 7 _ rfl); (have k8 := hSa 8 _ rfl); (have k9 := hSa 9 _ rfl); (have k10 := hSa 10 _ rfl); (have k11 := hSa 11 _ rfl); (have k12 := hSa 12 _ rfl); (have k13 := hSa 13 _ rfl); (have k14 := hSa 14 _ rfl); (have q0 := hSb 0 _ rfl); (have q1 := hSb 1 _ rfl); (have q2 := hSb 2 _ rfl); go_simp; (try with_reducible rfl))
    clear hcl0
    try simp only [Act.put, List.getElem_toArray, List.getElem_cons_succ, List.getElem_cons_zero, List.setIfInBounds_toArray, List.set_cons_zero, List.set_cons_succ]
    refine wpAnyN_oneC (i := 1) (by as_aux_lemma => kernel_rfl) rfl (by assumption) (fun hcl1 K' hK' => ?_)
    clear hcl2
    go_simp
    go_at_call 13
    refine (given_any p A p.data.length cap _ (HB.out.same HP0.out.1) hl).mono ?_
    rintro e wg ⟨A1, n1, cp1, rfl, hfg, hsg⟩
    have HP1 := Lib.hid (HP0.out.same hsg)
    have HFG := Lib.hid hfg
    clear hfg hsg
    have hS1 : BoxAt wg w.heap.size p (.slice A p.data.length cap) ∧ (∀ j u, (agC tO)[j]? = some u → wg.cell? ⟨w.heap.size + 1, j, none⟩ = some u) := ⟨HP1.out.2.1, HP1.out.2.2.1⟩
    refine hK'.out _ _ (fun _ => hS1) ?_
    clear hK' K'
    try simp only [Act.put, List.getElem_toArray, List.getElem_cons_succ, List.getElem_cons_zero, List.setIfInBounds_toArray, List.set_cons_zero, List.set_cons_succ]
    refine wpAnyN_oneC (i := 3) (by as_aux_lemma => kernel_rfl) rfl (by assumption) (fun hcl3 K' hK' => ?_)
    clear hcl1
    go_simp
    go_at_call 12
    refine (put_any p tO A1 n1 cp1 HOK.out _ HFG.out.bs).mono ?_
    rintro e wp ⟨v', rfl, hfp, hsp⟩
    have HP3 := Lib.hid (HP1.out.same hsp)
    have HFP := Lib.hid (Fresh.mono hfp HP1.out.2.2.2)
    obtain ⟨A5, n5, cp5, rfl⟩ := Fresh.shape hfp
    have hS2 : BoxAt wp w.heap.size p (.slice A p.data.length cap) ∧ (∀ j u, (agC tO)[j]? = some u → wp.cell? ⟨w.heap.size + 1, j, none⟩ = some u) := ⟨HP3.out.2.1, HP3.out.2.2.1⟩
    clear hfp hsp
    refine hK'.out _ _ (fun _ => hS2) ?_
    clear hK' K'
    try simp only [Act.put, List.getElem_toArray, List.getElem_cons_succ, List.getElem_cons_zero, List.setIfInBounds_toArray, List.set_cons_zero, List.set_cons_succ]
    refine wpAnyN_take (i := 4) (v := ?_) rfl (by as_aux_lemma => kernel_rfl) (by as_aux_lemma => kernel_rfl) (by as_aux_lemma => kernel_rfl) (by as_aux_lemma => kernel_rfl) (fun _ _ _ h => h) (by assumption) hS2 (Or.inl ⟨by rfl, ?_⟩) (fun hcl4 => ?_)
    rotate_left
    · (intro wS hSw; (obtain ⟨hSa, hSb⟩ := hSw); (have k0 := hSa 0 _ rfl); (have k1 := hSa 1 _ rfl); (have k2 := hSa 2 _ rfl); (have k3 := hSa 3 _ rfl); (have k4 := hSa 4 _ rfl); (have k5 := hSa 5 _ rfl); (have k6 := hSa 6 _ rfl); (have k7 := hSa 7 _ rfl); (have k8 := hSa 8 _ rfl); (have k9 := hSa 9 _ rfl); (have k10 := hSa 10 _ rfl); (have k11 := hSa 11 _ rfl); (have k12 := hSa 12 _ rfl); (have k13 := hSa 13 _ rfl); (have k14 := hSa 14 _ rfl); (have q0 := hSb 0 _ rfl); (have q1 := hSb 1 _ rfl); (have q2 := hSb 2 _ rfl); go_simp; (try with_reducible rfl))
    clear hcl3
    try simp only [Act.put, List.getElem_toArray, List.getElem_cons_succ, List.getElem_cons_zero, List.setIfInBounds_toArray, List.set_cons_zero, List.set_cons_succ]
    refine wpAnyN_take (i := 5) (v := ?_) rfl (by as_aux_lemma => kernel_rfl) (by as_aux_lemma => kernel_rfl) (by as_aux_lemma => kernel_rfl) (by as_aux_lemma => kernel_rfl) (fun _ _ _ h => h) (by assumption) hS2 (Or.inl ⟨by rfl, ?_⟩) (fun hcl5 => ?_)
    rotate_left
    · (intro wS hSw; (obtain ⟨hSa, hSb⟩ := hSw); (have k0 := hSa 0 _ rfl); (have k1 := hSa 1 _ rfl); (have k2 := hSa 2 _ rfl); (have k3 := hSa 3 _ rfl); (have k4 := hSa 4 _ rfl); (have k5 := hSa 5 _ rfl); (have k6 := hSa 6 _ rfl); (have k7 := hSa 7 _ rfl); (have k8 := hSa 8 _ rfl); (have k9 := hSa 9 _ rfl); (have k10 := hSa 10 _ rfl); (have k11 := hSa 11 _ rfl); (have k12 := hSa 12 _ rfl); (have k13 := hSa 13 _ rfl); (have k14 := hSa 14 _ rfl); (have q0 := hSb 0 _ rfl); (have q1 := hSb 1 _ rfl); (have q2 := hSb 2 _ rfl); go_simp; (try with_reducible rfl))
    clear hcl4
    try simp only [Act.put, List.getElem_toArray, List.getElem_cons_succ, List.getElem_cons_zero, List.setIfInBounds_toArray, List.set_cons_zero, List.set_cons_succ]
    refine wpAnyN_take (i := 6) (v := ?_) rfl (by as_aux_lemma => kernel_rfl) (by as_aux_lemma => kernel_rfl) (by as_aux_lemma => kernel_rfl) (by as_aux_lemma => kernel_rfl) (fun _ _ _ h => h) (by assumption) hS2 (Or.inl ⟨by rfl, ?_⟩) (fun hcl6 => ?_)
    rotate_left
    · (intro wS hSw; (obtain ⟨hSa, hSb⟩ := hSw); (have k0 := hSa 0 _ rfl); (have k1 := hSa 1 _ rfl); (have k2 := hSa 2 _ rfl); (have k3 := hSa 3 _ rfl); (have k4 := hSa 4 _ rfl); (have k5 := hSa 5 _ rfl); (have k6 := hSa 6 _ rfl); (have k7 := hSa 7 _ rfl); (have k8 := hSa 8 _ rfl); (have k9 := hSa 9 _ rfl); (have k10 := hSa 10 _ rfl); (have k11 := hSa 11 _ rfl); (have k12 := hSa 12 _ rfl); (have k13 := hSa 13 _ rfl); (have k14 := hSa 14 _ rfl); (have q0 := hSb 0 _ rfl); (have q1 := hSb 1 _ rfl); (have q2 := hSb 2 _ rfl); go_simp; (try with_reducible rfl))
    clear hcl5
    try simp only [Act.put, List.getElem_toArray, List.getElem_cons_succ, List.getElem_cons_zero, List.setIfInBounds_toArray, List.set_cons_zero, List.set_cons_succ]
    refine wpAnyN_take (i := 7) (v := ?_) rfl (by as_aux_lemma => kernel_rfl) (by as_aux_lemma => kernel_rfl) (by as_aux_lemma => kernel_rfl) (by as_aux_lemma => kernel_rfl) (fun _ _ _ h => h) (by assumption) hS2 (Or.inl ⟨by rfl, ?_⟩) (fun hcl7 => ?_)
    rotate_left
    · (intro wS hSw; (obtain ⟨hSa, hSb⟩ := hSw); (have k0 := hSa 0 _ rfl); (have k1 := hSa 1 _ rfl); (have k2 := hSa 2 _ rfl); (have k3 := hSa 3 _ rfl); (have k4 := hSa 4 _ rfl); (have k5 := hSa 5 _ rfl); (have k6 := hSa 6 _ rfl); (have k7 := hSa 7 _ rfl); (have k8 := hSa 8 _ rfl); (have k9 := hSa 9 _ rfl); (have k10 := hSa 10 _ rfl); (have k11 := hSa 11 _ rfl); (have k12 := hSa 12 _ rfl); (have k13 := hSa 13 _ rfl); (have k14 := hSa 14 _ rfl); (have q0 := hSb 0 _ rfl); (have q1 := hSb 1 _ rfl); (have q2 := hSb 2 _ rfl); go_simp; (try with_reducible rfl))
    clear hcl6
    try simp only [Act.put, List.getElem_toArray, List.getElem_cons_succ, List.getElem_cons_zero, List.setIfInBounds_toArray, List.set_cons_zero, List.set_cons_succ]
    refine wpAnyN_take (i := 8) (v := ?_) rfl (by as_aux_lemma => kernel_rfl) (by as_aux_lemma => kernel_rfl) (by as_aux_lemma => kernel_rfl) (by as_aux_lemma => kernel_rfl) (fun _ _ _ h => h) (by assumption) hS2 (Or.inl ⟨by rfl, ?_⟩) (fun hcl8 => ?_)
    rotate_left
    · (intro wS hSw; (obtain ⟨hSa, hSb⟩ := hSw); (have k0 := hSa 0 _ rfl); (have k1 := hSa 1 _ rfl); (have k2 := hSa 2 _ rfl); (have k3 := hSa 3 _ rfl); (have k4 := hSa 4 _ rfl); (have k5 := hSa 5 _ rfl); (have k6 := hSa 6 _ rfl); (have k7 := hSa 7 _ rfl); (have k8 := hSa 8 _ rfl); (have k9 := hSa 9 _ rfl); (have k10 := hSa 10 _ rfl); (have k11 := hSa 11 _ rfl); (have k12 := hSa 12 _ rfl); (have k13 := hSa 13 _ rfl); (have k14 := hSa 14 _ rfl); (have q0 := hSb 0 _ rfl); (have q1 := hSb 1 _ rfl); (have q2 := hSb 2 _ rfl); go_simp; (try with_reducible rfl))
    clear hcl7
    try simp only [Act.put, List.getElem_toArray, List.getElem_cons_succ, List.getElem_cons_zero, List.setIfInBounds_toArray, List.set_cons_zero, List.set_cons_succ]
    refine wpAnyN_done (by as_aux_lemma => kernel_rfl) ?_ _
    refine NoPanic.normal ?_
    go_wp2_with fail
    go_meet
    exact ⟨_, _, _, rfl, rfl, HFP.out, HP3.out⟩
  case rest =>
  obtain ⟨A', n', cap', rfl, rfl, hf, hpb⟩ := hcut
  have HF := Lib.hid hf
  have HPB := Lib.hid hpb
  clear hf hpb
  by_cases hE : pduE p tO = 0
  · rw [hE]
    have hL : pduL p tO = rawL p tO := by unfold pduL; rw [if_pos hE]
    rw [hL] at HF
    have hrl := raw_len HOK.out hE
    have hn' : n' = (rawL p tO).length := HF.out.len'
    subst hn'
    have hc := HF.out.cap
    have HE := Lib.hid hE
    obtain ⟨RL, hRL⟩ : ∃ RL, RL = (rawL p tO).length := ⟨_, rfl⟩
    rw [← hRL] at hrl hc HF ⊢
    have HRL := Lib.hid hRL
    obtain ⟨pb, po, rfl⟩ := HF.out.addr (by omega)
    obtain ⟨LD, hLD⟩ : ∃ LD, LD = p.data.length := ⟨_, rfl⟩
    have HLD := Lib.hid hLD
    rw [← hLD] at hrl HPB
    obtain ⟨lo, hlo⟩ : ∃ lo, lo = if inD then 52 else 0 := ⟨_, rfl⟩
    obtain ⟨hi, hhi⟩ : ∃ hi, hi = if inD then 52 + LD else 48 := ⟨_, rfl⟩
    have hb1 : lo ≤ hi ∧ hi ≤ RL := by rw [hlo, hhi]; cases inD <;> simp <;> omega
    have HLO := Lib.hid hlo
    have HHI := Lib.hid hhi
    have hRm : RL ≤ 65600 := hrl.2
    have hLm : LD ≤ 65600 := by omega
    clear hE hL hRL hLD hlo hhi hrl
    go_upto_if 33 with (fail)
    go_cut [3, 12, 13] from 22 (fun v3 v12 v13 wx => v3 = .bool inD ∧ v12 = .int .i64 ((lo : Nat) : Int) ∧ v13 = .int .i64 ((hi : Nat) : Int) ∧ wx = wc)
    case first =>
      have c14 := HPB.out.2.1 14 _ rfl
      have h1 := HLO.out
      have h2 := HHI.out
      cases inD
      · have H1 := Lib.hid h1
        have H2 := Lib.hid h2
        clear h1 h2
        go_wp2_with fail
        go_meet
        exact ⟨rfl, by rw [H1.out]; rfl, by rw [H2.out]; rfl, rfl⟩
      · have H1 := Lib.hid h1
        have H2 := Lib.hid h2
        clear h1 h2
        go_wp2_with fail
        go_meet
        exact ⟨rfl, by rw [H1.out]; rfl, by rw [H2.out]; simp, rfl⟩
    case rest =>
    obtain ⟨rfl, rfl, rfl, rfl⟩ := hcut
    have k1 : ¬ (RL : Int) < (hi : Int) := by omega
    by_cases hlh : lo = hi
    · have k2 : (((lo : Nat) : Int) == ((hi : Nat) : Int)) = true := by rw [hlh]; simp
      have k3 : (hi : Int) ≤ (RL : Int) := by omega
      clear hlh
      go_wp2_with fail
      refine (HKN.out _).mono ?_
      rintro e wk ⟨rfl, hsk⟩
      have HSK := Lib.hid (Same.trans HPB.out.1 hsk)
      clear hsk
      go_wp2_with fail
      go_ret
      exact ⟨rfl, HSK.out⟩
    · have k2 : (((lo : Nat) : Int) == ((hi : Nat) : Int)) = false := by rw [beq_eq_false_iff_ne]; intro e; exact hlh (by omega)
      obtain ⟨D, hD⟩ : ∃ D, D = hi - lo := ⟨_, rfl⟩
      have hD0 : 0 < D := by omega
      have hDm : D ≤ 65600 := by omega
      have hDi : (hi : Int) - (lo : Int) = (D : Int) := by omega
      have hDh : lo + D = hi := by omega
      obtain ⟨s, hs⟩ : ∃ s : Nat, (s : Int) = at_ % (8 * D) := ⟨(at_ % (8 * D)).toNat, by have := Int.emod_nonneg at_ (show (8 * (D : Int)) ≠ 0 by omega); omega⟩
      have hs2 : s < 8 * D := by have := Int.emod_lt_of_pos at_ (show 0 < 8 * (D : Int) by omega); omega
      obtain ⟨t, ht⟩ : ∃ t, t = 8 * lo + s := ⟨_, rfl⟩
      have ht2 : t < 8 * hi := by omega
      have hti : (8 * (lo : Int) + (s : Int)) = (t : Int) := by omega
      have HS := Lib.hid hs
      have HT := Lib.hid ht
      have hlm : lo ≤ 52 := by rw [HLO.out]; split <;> omega
      have HDH := Lib.hid hDh
      clear hs ht hD hlh hDh
      go_wp2_with fail
      refine (count_any at_ (8 * D) _ (by omega) (by omega) hatb.1 hatb.2).mono ?_
      rintro e w' ⟨rfl, rfl⟩
      rw [← HS.out]
      go_upto_block 0 with (fail)
      go_cut [14, 15, 16] from 63 to 97 (fun v14 v15 v16 wx => ∃ k, k ≤ 32 ∧ t + k ≤ 8 * hi ∧ v14 = .bool (anyN B k) ∧ Fresh (w.heap.size + 2) wx (.slice (some ⟨pb, po, none⟩) RL cap') (flipN (rawL p tO) t B k) ∧ PB w wx p (.slice A LD cap) tO)
      case first =>
        have hBr := u32v_range B
        have hst : Fresh (w.heap.size + 2) wc (.slice (some ⟨pb, po, none⟩) RL cap') (rawL p tO) ∧ PB w wc p (.slice A LD cap) tO := ⟨HF.out, HPB.out⟩
        have HST := Lib.hid hst
        have hcm := hc.1
        clear hst HF HPB
        go_wp2_with fail
        go_loopw [14, 15, 16] (fun v14 v15 v16 wr => ∃ k : Nat, k ≤ 32 ∧ t + k ≤ 8 * hi ∧ v15 = .int .i64 k ∧ v14 = .bool (anyN B k) ∧ Hid (Fresh (w.heap.size + 2) wr (.slice (some ⟨pb, po, none⟩) RL cap') (flipN (rawL p tO) t B k) ∧ PB w wr p (.slice A LD cap) tO)) (fun _ i _ _ => 32 - (intOf i).toNat)
        case atStart => exact ⟨0, by omega, by omega, rfl, rfl, HST.out⟩
        case round =>
          obtain ⟨k, hk, htk, rfl, rfl, hf⟩ := hrel
          have hkl : (flipN (rawL p tO) t B k).length = RL := by rw [flipN_length]; exact HRL.out.symm
          have HKL := Lib.hid hkl
          clear hkl
          by_cases hk2 : k < 32 ∧ t + k < 8 * hi
          · obtain ⟨hk3, hk4⟩ := hk2
            have c1 : (k : Int) < 32 := by omega
            have c2 : (t : Int) + (k : Int) < 8 * (hi : Int) := by omega
            have hm1 : (t + k) / 8 < RL := by omega
            obtain ⟨hcell, hfr⟩ := hf.out.1.at_ ((t + k) / 8) (by have := HKL.out; omega)
            have hidx : ((t : Int) + (k : Int)) / 8 < (RL : Int) := by omega
            cases hb : B.getLsbD k with
            | true =>
              have htest : (bits BinOp.and IntKind.u32 (u32v B / 2 ^ k) 1 == 1) = true := (test_num B k).trans hb
              have H2 := Lib.hid hb
              clear hb
              obtain ⟨f1, f2, f3⟩ := hf.out.1.set ((t + k) / 8) (by have := HKL.out; omega) (flip1 ((flipN (rawL p tO) t B k).getD ((t + k) / 8) 0) ((t + k) % 8)) _ (flip_num (flipN (rawL p tO) t B k) ((t + k) / 8) ((t + k) % 8) (by omega))
              have hpb2 := hf.out.2.row hf.out.1 (f2.mono (fun i _ hi => by subst hi; simp [room]; omega))
              have F1 := Lib.hid f1
              have P2 := Lib.hid hpb2
              clear f1 f2 hpb2
              go_wp2_with fail
              go_roundw
              case rel => exact ⟨k + 1, by omega, by omega, by go_num, by rw [anyN, H2.out]; rfl, by rw [flipN, H2.out]; exact ⟨F1.out, P2.out⟩⟩
              case measure => simp [intOf]; omega
            | false =>
              have htest : (bits BinOp.and IntKind.u32 (u32v B / 2 ^ k) 1 == 1) = false := (test_num B k).trans hb
              have H2 := Lib.hid hb
              clear hb
              go_wp2_with fail
              go_roundw
              case rel => exact ⟨k + 1, by omega, by omega, by go_num, by rw [anyN, H2.out]; rfl, by rw [flipN, H2.out]; exact hf⟩
              case measure => simp [intOf]; omega
          · have hcond : ¬ ((k : Int) < 32 ∧ (t : Int) + (k : Int) < 8 * (hi : Int)) := by omega
            go_wp2_with fail
            all_goals go_meet
            all_goals exact ⟨k, hk, htk, rfl, hf.out.1, hf.out.2⟩
      case rest =>
      obtain ⟨k, hk, htk, rfl, hf, hpb⟩ := hcut
      obtain ⟨FL, hFL⟩ : ∃ FL, FL = flipN (rawL p tO) t B k := ⟨_, rfl⟩
      obtain ⟨y, hy⟩ : ∃ y, y = anyN B k := ⟨_, rfl⟩
      rw [← hFL] at hf
      rw [← hy]
      have hfl : FL.length = RL := by rw [hFL, flipN_length]; exact HRL.out.symm
      have hnx : if y then (Rd1.next ⟨tO, FL, false⟩).2.1 = 12 ∧ (Rd1.next ⟨tO, FL, false⟩).2.2.1 = true ∧ (Rd1.next ⟨tO, FL, false⟩).2.2.2.dead = !inD else (Rd1.next ⟨tO, FL, false⟩).2.1 = 0 ∧ (Rd1.next ⟨tO, FL, false⟩).2.2.1 = true := by
        rw [hFL]
        cases hyy : y
        · exact tells_none HOK.out HE.out t B k (by rw [← hy]; exact hyy)
        · refine tells_all HOK.out HE.out inD t B k hk ?_ ?_ (by rw [← hy]; exact hyy)
          · rw [HT.out, HLO.out]; split <;> omega
          · rw [← HLD.out, ← HHI.out]; exact htk
      have HNX := Lib.hid hnx
      have HF := Lib.hid hf
      have HPB := Lib.hid hpb
      have HFL := Lib.hid hfl
      have c0 := hpb.2.2.1 0 _ rfl
      have c1 := hpb.2.2.1 1 _ rfl
      have c2 := hpb.2.2.1 2 _ rfl
      clear hf hpb hFL hy hnx hfl hti hDi
      go_wp2_with fail
      refine (new_rd tO (by decide) w.heap.size wc HPB.out.1.size).mono ?_
      rintro e w2 ⟨b, rfl, hlb, hrd, hs2⟩
      have HRD := Lib.hid hrd
      have HS2 := Lib.hid (Same.trans HPB.out.1 hs2)
      have HF2 := Lib.hid (HF.out.same hs2)
      clear hlb hs2 hrd c0 c1 c2
      go_wp2_with fail
      refine (HRD.out.feed20 (base := w.heap.size) HS2.out.size rfl (by have := HFL.out; simp; omega) HF2.out.bs).mono ?_
      rintro e w3 ⟨rfl, hg⟩
      obtain ⟨v3, hv3, hu3, hr3⟩ := hg
      simp only [List.nil_append] at hv3
      have HS3 := Lib.hid (Same.into HS2.out hu3 (fun k hk => (HRD.out.foot k hk).1))
      have HV3 := Lib.hid hv3
      clear hv3 hu3 hr3
      go_wp2_with fail
      refine (next_any HV3.out HS3.out.size (by have := HFL.out; simp; omega)).mono ?_
      rintro e w4 hnp
      obtain ⟨x, hx⟩ : ∃ x, x = Rd1.next ⟨tO, FL, false⟩ := ⟨_, rfl⟩
      rw [← hx] at hnp HNX
      obtain ⟨q, E4, ok4, r4⟩ := x
      obtain ⟨A4, n4, cp4, rfl, hf4, v4, hv4, hu4, hr4, hd4⟩ := hnp
      have HS4 := Lib.hid (Same.into HS3.out hu4 (fun k hk => (HV3.out.foot k hk).1))
      have HDD := Lib.hid (fun W hs => dead_any b r4.o v4 r4.dead W ((hv4.same hs).2.1))
      clear hf4 hv4 hu4 hr4 hd4 hx
      unfold pdA
      cases y
      · simp only [Bool.false_eq_true, if_false] at HNX
        obtain ⟨n1, n2⟩ := HNX.out
        subst n1 n2
        go_wp2_with fail
        refine (HKN.out _).mono ?_
        rintro e wk ⟨rfl, hsk⟩
        have HSK := Lib.hid (Same.trans (HS4.out.alloc _) hsk)
        clear hsk
        go_wp2_with fail
        go_ret
        exact ⟨rfl, HSK.out⟩
      · simp only [if_true] at HNX
        obtain ⟨n1, n2, n3⟩ := HNX.out
        subst n1 n2
        have hdd : ∀ W, Same w4 W → Calls Try.prog 21 #[.pointer (some ⟨b, 0, none⟩)] W fun e w' => e = .returned (.bool (!inD)) ∧ W = w' := fun W hs => by
          have h1 := HDD.out W hs
          rw [n3] at h1
          exact h1
        have HD2 := Lib.hid hdd
        clear hdd HDD n3
        go_wp2_with fail
        refine (HD2.out _ ((Upd.refl _ _).alloc _)).mono ?_
        rintro e w5 ⟨rfl, rfl⟩
        go_wp2_with fail
        refine (HKN.out _).mono ?_
        rintro e wk ⟨rfl, hsk⟩
        have HSK := Lib.hid (Same.trans (HS4.out.alloc _) hsk)
        clear hsk
        go_wp2_with fail
        go_ret
        exact ⟨rfl, HSK.out⟩
  · have hE2 : (pduE p tO != 0) = true := by simpa using hE
    generalize pduE p tO = E at hE hE2
    have hE3 : (E == 0) = false := by simpa using hE
    clear hE
    go_wp2_with fail
    refine (HKN.out _).mono ?_
    rintro e wk ⟨rfl, hsk⟩
    have HSK := Lib.hid (Same.trans HPB.out.1 hsk)
    clear hsk
    go_wp2_with fail
    go_ret
    exact ⟨rfl, HSK.out⟩
theorem pduTells_walk2 (w : World) (v : Value) (p : Pd) (hp : PdIn w v p) (a : Int) (hw : (Lit.int .i64 a).wf = true) (b : Int) (hw2 : (Lit.int .u32 b).wf = true) (c : Bool) :
    Calls Try.prog 5 #[v, .int .i64 a, .int .u32 b, .bool c] w fun e w' => e = .returned (.bool true) ∧ Same w w' := by
  obtain ⟨A, n, cap, rfl, h1, h2, h3⟩ := hp
  have hb := bounds_u32 hw2
  obtain ⟨B, rfl⟩ : ∃ B : BitVec 32, b = u32v B := ⟨BitVec.ofNat 32 b.toNat, by unfold u32v; rw [BitVec.toNat_ofNat]; omega⟩
  exact pduTells_walk w p A n cap a (bounds_i64 hw) B c h1 h2 h3
end Go.Proofs.Ytfafepmghcobdaa
