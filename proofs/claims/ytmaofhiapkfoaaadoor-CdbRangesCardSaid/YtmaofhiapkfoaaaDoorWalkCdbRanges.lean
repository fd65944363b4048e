/- The walk of CdbRanges. -/
import Derived.Test.YtmaofhiapkfoaaaDoorCdbRh
import Derived.Test.YtmaofhiapkfoaaaDoorCdbW
import Derived.Test.YtmaofhiapkfoaaaDoorCdbK
import Derived.Test.YtmaofhiapkfoaaaDoorLentK
namespace Go.Proofs.YtmaofhiapkfoaaaDoor
open Go.RowKit
set_option linter.unusedVariables false
set_option linter.unusedSimpArgs false
set_option maxRecDepth 100000
set_option maxHeartbeats 4000000
theorem rgL_ok (bs : List UInt8) : ∀ r ∈ rgL bs, Rg.ok r := by
  intro r hr
  unfold rgL at hr
  split at hr
  · obtain ⟨i, _, rfl⟩ := List.mem_map.mp hr
    have a := rgV_range bs (8 + 16 * i) 8 (by omega)
    have b := rgV_range bs (8 + 16 * i + 8) 4 (by omega)
    exact ⟨⟨a.1, a.2.1⟩, by have := b.1; show _ ≤ rgV _ _ _; omega, by have := b.2.2.1 (by omega); show rgV _ _ _ ≤ _; omega⟩
  · simp at hr
theorem rgL_len (bs : List UInt8) : (rgL bs).length ≤ 8796093022208 := by
  unfold rgL
  split
  · rename_i h
    have := (rg_good h).2.2.1
    simp; omega
  · simp
theorem prL_len (l : List Rg) : (prL l).length ≤ 140737488351232 := by
  unfold prL
  split
  · rename_i h
    have h32 : l.length ≤ 32 := by
      unfold prE at h
      split at h
      · omega
      · omega
    rw [List.length_append, headB_length, flat_length]
    omega
  · simp
theorem cdbRanges_walk (w : World) (hT : Tab15 w) (lv : Value) (l : List Rg) (hRl : Rdr w lv 2 (l.flatMap rgC)) (hok : ∀ r ∈ l, Rg.ok r) (hll : l.length ≤ 8796093022208) (v : Value) (bs : List UInt8) (h : Bs w v bs) (hl : bs.length ≤ 140737488351232) :
    Calls Tryd.prog 8 #[lv, v] w fun e w' => e = .returned (.bool true) ∧ Same w w' := by
  have HPG := Lib.hid (fun u W hu => putRanges_any u l W hu hll hok)
  have HPR := Lib.hid (fun u W hu => rputRanges_any u l W hu hll hok)
  have HRY := Lib.hid (fun u W hu => ranges_any u bs W hu (by omega))
  have HRZ := Lib.hid (fun u W hu => rranges_any u bs W hu (by omega))
  have HPY := Lib.hid (fun u W hu => putRanges_any u (rgL bs) W hu (rgL_len bs) (rgL_ok bs))
  have HRX := Lib.hid (fun u W hu => ranges_any u (prL l) W hu (by have := prL_len l; omega))
  have HBK := Lib.hid (fun h => @rg_back bs h)
  have HPT := Lib.hid (fun h => rg_put hok h)
  have HLL := Lib.hid (rgL_len bs)
  generalize prE l = E1 at HPG HPR HPT
  generalize prL l = X1 at HPG HPR HPT HRX
  generalize rgE bs = E at HRY HRZ HBK
  generalize rgL bs = L at HRY HRZ HBK HPY HLL
  obtain ⟨A, cap, rfl, k1, k2, _⟩ := id h
  have HT := Lib.hid hT
  have HB := Lib.hid h
  have HRL := Lib.hid hRl
  have HK := Lib.hid hll
  clear hT h hRl hok hll
  go_enter Tryd.func8, Tryd.ntmps8
  go_wp2_with fail
  refine (lent_bs _ bs w HB.out hl).mono ?_
  rintro e w1 ⟨v1, rfl, hln, hs1⟩
  obtain ⟨lb, lo, lc, rfl, hlf⟩ := id hln
  have HW := Lib.hid hs1
  have HLN := Lib.hid hln
  clear hln hs1 hlf
  go_wp2_with fail
  refine (given2_any _ l _ (HRL.out.same HW.out) HK.out).mono ?_
  rintro e w2 ⟨g, rfl, hg, hs⟩
  have HW2 := Lib.hid (Same.trans HW.out hs)
  have HLN2 := Lib.hid (HLN.out.same hs)
  have HG2 := Lib.hid hg
  clear hs hg HW HLN
  go_wp2_with fail
  refine (HPG.out _ _ HG2.out.rdr).mono ?_
  rintro e w3 ⟨vx, rfl, hx, hs⟩
  obtain ⟨xA, xc, rfl, _⟩ := id hx.bs
  have HW3 := Lib.hid (Same.trans HW2.out hs)
  have HLN3 := Lib.hid (HLN2.out.same hs)
  have HX3 := Lib.hid hx.bs
  clear hs hx HW2 HLN2 HG2
  go_wp2_with fail
  refine (HPR.out _ _ (HRL.out.same HW3.out)).mono ?_
  rintro e w4 ⟨vy, rfl, hy, hs⟩
  obtain ⟨yA, yc, rfl, _⟩ := id hy.bs
  have HW4 := Lib.hid (Same.trans HW3.out hs)
  have HLN4 := Lib.hid (HLN3.out.same hs)
  have HX4 := Lib.hid (HX3.out.same hs)
  have HY4 := Lib.hid hy.bs
  clear hs hy HW3 HLN3 HX3
  go_wp2_with fail
  refine (HRY.out _ _ HLN4.out.bs).mono ?_
  rintro e w5 ⟨vr, rfl, hr, hs⟩
  have HW5 := Lib.hid (Same.trans HW4.out hs)
  have HLN5 := Lib.hid (HLN4.out.same hs)
  have HX5 := Lib.hid (HX4.out.same hs)
  have HY5 := Lib.hid (HY4.out.same hs)
  have HR5 := Lib.hid hr.rdr
  clear hs hr HW4 HLN4 HX4 HY4 HRY
  go_wp2_with fail
  refine (HRZ.out _ _ (HB.out.same HW5.out)).mono ?_
  rintro e w6 ⟨vq, rfl, hq, hs⟩
  have HW6 := Lib.hid (Same.trans HW5.out hs)
  have HLN6 := Lib.hid (HLN5.out.same hs)
  have HX6 := Lib.hid (HX5.out.same hs)
  have cv1 := conv_bs (P := Tryd.prog) (src := 25) (dst := 9) Tryd.underlying25 Tryd.underlying5 Tryd.underlying9 HX6.out
  have cv2 := conv_bs (P := Tryd.prog) (src := 25) (dst := 9) Tryd.underlying25 Tryd.underlying5 Tryd.underlying9 (HY5.out.same hs)
  have HR6 := Lib.hid (HR5.out.same hs)
  have HQ6 := Lib.hid hq.rdr
  clear hs hq HW5 HLN5 HX5 HY5 HR5 HRZ
  go_wp2_with fail
  clear cv1 cv2
  refine (taken2_any _ L _ HR6.out HLL.out).mono ?_
  rintro e w7 ⟨vt, rfl, ht, hs⟩
  have HW7 := Lib.hid (Same.trans HW6.out hs)
  have HLN7 := Lib.hid (HLN6.out.same hs)
  have HX7 := Lib.hid (HX6.out.same hs)
  have HR7 := Lib.hid (HR6.out.same hs)
  have HQ7 := Lib.hid (HQ6.out.same hs)
  have HT7 := Lib.hid ht.rdr
  clear hs ht HW6 HLN6 HX6 HR6 HQ6
  go_wp2_with fail
  refine (sameRanges_any _ _ L _ HT7.out HQ7.out HLL.out).mono ?_
  rintro e w8 ⟨rfl, hs⟩
  have HW8 := Lib.hid (Same.trans HW7.out hs)
  have HLN8 := Lib.hid (HLN7.out.same hs)
  have HX8 := Lib.hid (HX7.out.same hs)
  have HR8 := Lib.hid (HR7.out.same hs)
  clear hs HW7 HLN7 HX7 HR7 HQ7 HT7
  go_wp2_with fail
  refine (kept_bs _ _ bs _ HLN8.out (HB.out.same HW8.out) hl).mono ?_
  rintro e w9 ⟨rfl, rfl⟩
  clear HLN8
  by_cases hE : E = 0
  · subst hE
    obtain ⟨q1, q2⟩ := HBK.out rfl
    rw [q1, q2] at HPY
    clear q1 q2 HBK
    go_wp2_with fail
    refine (HPY.out _ _ HR8.out).mono ?_
    rintro e wa ⟨vz, rfl, hz, hs⟩
    obtain ⟨zA, zc, rfl, _⟩ := id hz.bs
    have HWA := Lib.hid (Same.trans HW8.out hs)
    have HXA := Lib.hid (HX8.out.same hs)
    have cv1 := conv_bs (P := Tryd.prog) (src := 25) (dst := 9) Tryd.underlying25 Tryd.underlying5 Tryd.underlying9 hz.bs
    have cv2 := conv_bs (P := Tryd.prog) (src := 25) (dst := 9) Tryd.underlying25 Tryd.underlying5 Tryd.underlying9 (HB.out.same HWA.out)
    clear hs hz HW8 HX8 HPY HR8
    by_cases h1 : E1 = 0
    · subst h1
      obtain ⟨q1, q2⟩ := HPT.out rfl
      rw [q1, q2] at HRX
      clear q1 q2 HPT
      go_wp2_with fail
      refine (HRX.out _ _ HXA.out).mono ?_
      rintro e wb ⟨vm, rfl, hm, hs⟩
      have HWB := Lib.hid (Same.trans HWA.out hs)
      have HMB := Lib.hid hm.rdr
      clear hs hm HWA HXA HRX
      go_wp2_with fail
      refine (taken2_any _ l _ HMB.out HK.out).mono ?_
      rintro e wc ⟨vn, rfl, hn, hs⟩
      have HWC := Lib.hid (Same.trans HWB.out hs)
      have HNC := Lib.hid hn.rdr
      clear hs hn HWB HMB
      go_wp2_with fail
      refine (sameRanges_any _ _ l _ HNC.out (HRL.out.same HWC.out) HK.out).mono ?_
      rintro e wd ⟨rfl, hs⟩
      have HWD := Lib.hid (Same.trans HWC.out hs)
      clear hs HWC HNC
      go_wp2_with fail
      refine (known_any _ (HT.out.same HWD.out)).mono ?_
      rintro e we ⟨rfl, hs⟩
      go_wp2_with fail
      go_ret
      exact ⟨rfl, Same.trans HWD.out hs⟩
    · have e1 : (E1 != 0) = true := by simpa using h1
      clear HRX HPT
      go_wp2_with fail
      refine (known_any _ (HT.out.same HWA.out)).mono ?_
      rintro e we ⟨rfl, hs⟩
      go_wp2_with fail
      go_ret
      exact ⟨rfl, Same.trans HWA.out hs⟩
  · have eE : (E == 0) = false := by simpa using hE
    have HWA := Lib.hid HW8.out
    have HXA := Lib.hid HX8.out
    clear HBK HPY HR8 HW8 HX8
    by_cases h1 : E1 = 0
    · subst h1
      obtain ⟨q1, q2⟩ := HPT.out rfl
      rw [q1, q2] at HRX
      clear q1 q2 HPT
      go_wp2_with fail
      refine (HRX.out _ _ HXA.out).mono ?_
      rintro e wb ⟨vm, rfl, hm, hs⟩
      have HWB := Lib.hid (Same.trans HWA.out hs)
      have HMB := Lib.hid hm.rdr
      clear hs hm HWA HXA HRX
      go_wp2_with fail
      refine (taken2_any _ l _ HMB.out HK.out).mono ?_
      rintro e wc ⟨vn, rfl, hn, hs⟩
      have HWC := Lib.hid (Same.trans HWB.out hs)
      have HNC := Lib.hid hn.rdr
      clear hs hn HWB HMB
      go_wp2_with fail
      refine (sameRanges_any _ _ l _ HNC.out (HRL.out.same HWC.out) HK.out).mono ?_
      rintro e wd ⟨rfl, hs⟩
      have HWD := Lib.hid (Same.trans HWC.out hs)
      clear hs HWC HNC
      go_wp2_with fail
      refine (known_any _ (HT.out.same HWD.out)).mono ?_
      rintro e we ⟨rfl, hs⟩
      go_wp2_with fail
      go_ret
      exact ⟨rfl, Same.trans HWD.out hs⟩
    · have e1 : (E1 != 0) = true := by simpa using h1
      clear HRX HPT
      go_wp2_with fail
      refine (known_any _ (HT.out.same HWA.out)).mono ?_
      rintro e we ⟨rfl, hs⟩
      go_wp2_with fail
      go_ret
      exact ⟨rfl, Same.trans HWA.out hs⟩
end Go.Proofs.YtmaofhiapkfoaaaDoor
