/- Letters (chapter 17): the fixed calls come out as they must. -/
import Derived.Test.YtfafepmghcobdaaPduZ
import Derived.Test.YtfafepmghcobdaaGb
namespace Go.Proofs.Ytfafepmghcobdaa
open Go.RowKit
set_option linter.unusedVariables false
set_option linter.unusedSimpArgs false
set_option maxRecDepth 100000
set_option maxHeartbeats 4000000
def kP : Pd := { op := 0, now := true, flags := 0, b2 := 0, b3 := 0, lun := 0, task := 5, w := List.replicate 7 0, data := [] }
def kO : Ag := ⟨false, false, 100⟩
theorem kP_ok : kP.ok := by
  refine ⟨by decide, by decide, rfl, ?_⟩
  intro n hn
  have := List.eq_of_mem_replicate hn
  omega
theorem kP_e : pduE kP kO = 0 := by decide +kernel
theorem kP_l : (rawL kP kO).length = 48 := by decide +kernel
theorem kP_0 : at8 (rawL kP kO) 0 = 64 := by decide +kernel
theorem kP_19 : at8 (rawL kP kO) 19 = 5 := by decide +kernel
theorem kP_wait : Rd1.next ⟨kO, (rawL kP kO).take 20, false⟩ = (noP, 0, false, ⟨kO, (rawL kP kO).take 20, false⟩) := next_wait kP_ok kP_e 20 (by rw [kP_l]; decide)
theorem kP_next : Rd1.next ⟨kO, rawL kP kO, false⟩ = (kP, 0, true, ⟨kO, [], false⟩) := by
  have := next_put kP_ok kP_e []
  rwa [List.append_nil] at this
/-- A new reader. -/
theorem new_rd (o : Ag) (h : o.right = true) (base : Nat) (w : World) (hb : base ≤ w.heap.size) : Calls Try.prog 9 #[agA o] w fun e w' => ∃ b, e = .returned (.tuple #[.pointer (some ⟨b, 0, none⟩), .int .i64 0]) ∧ w.heap.size ≤ b ∧ RdV base w' b (.slice none 0 0) ⟨o, [], false⟩ ∧ Same w w' := by
  refine (new_good o h w).mono ?_
  rintro e w' ⟨b, rfl, h1, h2, h3, h4, h5⟩
  exact ⟨b, rfl, h1, ⟨by omega, h3, h4, Fresh.nil _ _, by simp [room]⟩, h5⟩
theorem RdV.feed20 {base : Nat} {w : World} {b : Nat} {v : Value} {r : Rd1} {A : Option Addr} {n cap : Nat} {bs : List UInt8} (h : RdV base w b v r) (hbase : base ≤ w.heap.size) (hd : r.dead = false) (hr : r.b.length + bs.length ≤ 131072) (hb : Bs w (.slice A n cap) bs) :
    Calls Try.prog 15 #[.pointer (some ⟨b, 0, none⟩), .slice A n cap] w fun e w' => e = .returned (.int .i64 0) ∧ RdG base w b v w' { r with b := r.b ++ bs } := by
  refine (feed_any h hbase (by omega) A n cap bs hb (by omega)).mono ?_
  rintro e w' ⟨rfl, hg⟩
  have h1 : r.feedE bs.length = 0 := by unfold Rd1.feedE; rw [hd, if_neg (by simp), if_neg (by omega)]
  have h2 : r.feed bs = { r with b := r.b ++ bs } := by unfold Rd1.feed; rw [hd, if_neg (by simp), if_neg (by omega)]
  rw [h1]
  rw [h2] at hg
  exact ⟨rfl, hg⟩
set_option maxHeartbeats 8000000 in
theorem known17_any (w : World) : Calls Try.prog 11 #[] w fun e w' => e = .returned (.bool true) ∧ Same w w' := by
  have hbd : ∀ W, (Instr.build 40 #[(1, .bool true), (6, .int .u32 5)]).run Try.prog W = .ok (.agg #[.int .i64 0, .bool true, .int .i64 0, .int .i64 0, .int .i64 0, .int .u64 0, .int .u32 5, .int .u32 0, .int .u32 0, .int .u32 0, .int .u32 0, .int .u32 0, .int .u32 0, .int .u32 0, .slice none 0 0]) W := fun W => run_build W _ _ _ (by kernel_rfl)
  have hput := Lib.hid (fun W => put_any kP kO none 0 0 kP_ok W (Fresh.nil 0 W).bs)
  have hnew := Lib.hid (fun W => new_rd kO (by decide) w.heap.size W)
  go_enter Try.func11, Try.ntmps11
  go_wp2_with fail
  have hs0 : Same w (w.alloc (.cells #[.bool false, .bool false, .int .i64 100] 30)) := (Upd.refl _ w).alloc _
  have hb0 : BoxC (w.alloc (.cells #[.bool false, .bool false, .int .i64 100] 30)) w.heap.size [.bool false, .bool false, .int .i64 100] := BoxC.newAt w [.bool false, .bool false, .int .i64 100] 30 w.heap.size rfl
  generalize w.alloc (.cells #[.bool false, .bool false, .int .i64 100] 30) = w0 at hs0 hb0 ⊢
  refine (hput.out w0).mono ?_
  rintro e w1 ⟨v1, rfl, hf1, hs1⟩
  rw [kP_e]
  have hL : pduL kP kO = rawL kP kO := by unfold pduL; rw [if_pos kP_e]
  rw [hL] at hf1
  obtain ⟨A1, n1, cp1, rfl⟩ := Fresh.shape hf1
  have hn1 : n1 = 48 := by rw [hf1.len', kP_l]
  subst hn1
  have hcap := hf1.cap
  rw [kP_l] at hcap
  obtain ⟨pb, po, rfl⟩ := hf1.addr (by omega)
  have g0 := (hf1.at_ 0 (by rw [kP_l]; decide)).1
  have g19 := (hf1.at_ 19 (by rw [kP_l]; decide)).1
  rw [kP_0, Nat.add_zero] at g0
  rw [kP_19] at g19
  have hb1 := hb0.upd (by decide) hs1 id
  have c0 := hb1.1 0 _ rfl
  have c1 := hb1.1 1 _ rfl
  have c2 := hb1.1 2 _ rfl
  have HF1 := Lib.hid hf1
  have HS1 := Lib.hid (Same.trans hs0 hs1)
  have HC := Lib.hid hcap
  clear hs0 hb0 hf1 hs1 hL hb1 hput
  have hgt : w0.heap.size ≤ pb ∧ pb < w1.heap.size := HF1.out.ge pb (by simp [room]; have := HC.out.1; omega)
  have hgt2 := HS1.out.size
  go_wp2_with fail
  refine (hnew.out w1 hgt2).mono ?_
  rintro e w2 ⟨b, rfl, hlb, hrd, hs2⟩
  have g0 := hs2.cell g0 id
  have g19 := hs2.cell g19 id
  have HRD := Lib.hid hrd
  have HS2 := Lib.hid (Same.trans HS1.out hs2)
  have HF2 := Lib.hid (HF1.out.same hs2)
  have HLB := Lib.hid hlb
  clear c0 c1 c2 hs2 hrd hnew hlb
  have hc20 : (20 : Int) ≤ (cp1 : Int) := by have := HC.out.1; omega
  have hc21 : ¬ cp1 = 20 := by have := HC.out.1; omega
  have hcm : cp1 ≤ 9223372036854775807 := HC.out.2
  go_wp2_with fail
  refine (HRD.out.feed20 (base := w.heap.size) HS2.out.size rfl (by simp [kP_l]) (HF2.out.bs.take 20 (by decide))).mono ?_
  rintro e w3 ⟨rfl, hg⟩
  obtain ⟨v3, hv3, hu3, hr3⟩ := hg
  simp only [List.nil_append] at hv3
  have hbw : w1.heap.size ≤ b := HLB.out
  have hf3 := HF2.out.upd hu3 (fun k hk e => by
    have : k = pb := by simp [room] at hk; exact hk.2.symm
    rcases e with e | e
    · omega
    · simp [room] at e)
  have hS3 := Same.into HS2.out hu3 (fun k hk => (HRD.out.foot k hk).1)
  have hsz2 := hu3.size
  have HU3 := Lib.hid hu3
  have HV3 := Lib.hid hv3
  have HR3 := Lib.hid hr3
  have HF3 := Lib.hid hf3
  have HS3 := Lib.hid hS3
  clear hu3 hv3 hr3 hf3 hS3 g0 g19
  go_wp2_with fail
  refine (next_any HV3.out HS3.out.size (by simp; omega)).mono ?_
  rintro e w4 hnp
  rw [kP_wait] at hnp
  obtain ⟨A4, n4, cp4, rfl, hf4, v4, hv4, hu4, hr4, hd4⟩ := hnp
  have hpw2 : pb < w2.heap.size := by have := HS2.out.size; have := (HF2.out.ge pb (by simp [room]; have := HC.out.1; omega)).2; exact this
  have HF4 := Lib.hid (HF3.out.upd hu4 (fun k hk e => by
    have : k = pb := by simp [room] at hk; exact hk.2.symm
    rcases e with e | e
    · omega
    · rcases HR3.out k e with e | e
      · simp [room] at e
      · omega))
  have HS4 := Lib.hid (Same.into HS3.out hu4 (fun k hk => (HV3.out.foot k hk).1))
  have HV4 := Lib.hid hv4
  have HR4 := Lib.hid hr4
  have hsz4 := hu4.size
  clear hf4 hv4 hu4 hr4 hd4
  unfold pdA
  have hb28 : Hid (∀ W, Fresh w0.heap.size W (.slice (some ⟨pb, po, none⟩) 48 cp1) (rawL kP kO) → Bs W (.slice (some ⟨pb, po + 20, none⟩) 28 (cp1 - 20)) ((rawL kP kO).drop 20)) := fun W hW => by
    have h1 := hW.bs.drop 20 (by decide)
    rw [if_neg hc21] at h1
    exact h1
  go_wp2_with fail
  have hs45 := Same.trans HS4.out ((Upd.refl (fun _ => False) w4).alloc (.cells #[.int .i64 noP.op, .bool noP.now, .int .i64 noP.flags, .int .i64 noP.b2, .int .i64 noP.b3, .int .u64 noP.lun, .int .u32 noP.task, .int .u32 (wd noP 0), .int .u32 (wd noP 1), .int .u32 (wd noP 2), .int .u32 (wd noP 3), .int .u32 (wd noP 4), .int .u32 (wd noP 5), .int .u32 (wd noP 6), .slice A4 n4 cp4] 40))
  have hv5 := HV4.out.same ((Upd.refl (fun _ => False) w4).alloc (.cells #[.int .i64 noP.op, .bool noP.now, .int .i64 noP.flags, .int .i64 noP.b2, .int .i64 noP.b3, .int .u64 noP.lun, .int .u32 noP.task, .int .u32 (wd noP 0), .int .u32 (wd noP 1), .int .u32 (wd noP 2), .int .u32 (wd noP 3), .int .u32 (wd noP 4), .int .u32 (wd noP 5), .int .u32 (wd noP 6), .slice A4 n4 cp4] 40))
  have hf5 := HF4.out.same ((Upd.refl (fun _ => False) w4).alloc (.cells #[.int .i64 noP.op, .bool noP.now, .int .i64 noP.flags, .int .i64 noP.b2, .int .i64 noP.b3, .int .u64 noP.lun, .int .u32 noP.task, .int .u32 (wd noP 0), .int .u32 (wd noP 1), .int .u32 (wd noP 2), .int .u32 (wd noP 3), .int .u32 (wd noP 4), .int .u32 (wd noP 5), .int .u32 (wd noP 6), .slice A4 n4 cp4] 40))
  generalize w4.alloc (.cells #[.int .i64 noP.op, .bool noP.now, .int .i64 noP.flags, .int .i64 noP.b2, .int .i64 noP.b3, .int .u64 noP.lun, .int .u32 noP.task, .int .u32 (wd noP 0), .int .u32 (wd noP 1), .int .u32 (wd noP 2), .int .u32 (wd noP 3), .int .u32 (wd noP 4), .int .u32 (wd noP 5), .int .u32 (wd noP 6), .slice A4 n4 cp4] 40) = w5 at hs45 hv5 hf5 ⊢
  have HS5 := Lib.hid hs45
  have HV5 := Lib.hid hv5
  have HF5 := Lib.hid hf5
  clear hs45 hv5 hf5
  refine (HV5.out.feed20 (base := w.heap.size) HS5.out.size rfl (by simp [kP_l]) (hb28.out w5 HF5.out)).mono ?_
  rintro e w6 ⟨rfl, hg⟩
  obtain ⟨v6, hv6, hu6, hr6⟩ := hg
  simp only [List.take_append_drop] at hv6
  have HS6 := Lib.hid (Same.into HS5.out hu6 (fun k hk => (HV5.out.foot k hk).1))
  have HV6 := Lib.hid hv6
  clear hv6 hu6 hr6
  go_wp2_with fail
  refine (next_any HV6.out HS6.out.size (by simp [kP_l])).mono ?_
  rintro e w7 hnp
  rw [kP_next] at hnp
  obtain ⟨A7, n7, cp7, rfl, hf7, v7, hv7, hu7, hr7, hd7⟩ := hnp
  obtain ⟨A8, n8, cp8, rfl⟩ := Fresh.shape hv7.2.2.2.1
  have hn8 := hv7.2.2.2.1.len'
  simp only [List.length_nil] at hn8
  subst hn8
  have HS7 := Lib.hid (Same.into HS6.out hu7 (fun k hk => (HV6.out.foot k hk).1))
  have hlf := left_any b kO A8 0 cp8 false _ (hv7.same ((Upd.refl (fun _ => False) w7).alloc (.cells (pdC kP (.slice A7 n7 cp7)).toArray 40))).2.1
  have HLF := Lib.hid hlf
  clear hf7 hv7 hu7 hr7 hd7 hlf
  have e1 : kP.now = true := rfl
  have e2 : kP.task = 5 := rfl
  unfold pdA
  go_wp2_with (go_at_call 20; refine HLF.out.mono ?_; rintro e w9 ⟨rfl, rfl⟩)
  go_ret
  exact ⟨rfl, HS7.out.alloc _⟩
end Go.Proofs.Ytfafepmghcobdaa
