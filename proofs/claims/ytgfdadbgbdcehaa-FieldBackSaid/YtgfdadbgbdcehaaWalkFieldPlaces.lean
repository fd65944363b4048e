/- The walk of FieldPlaces. -/
import Derived.Test.YtgfdadbgbdcehaaKnown02
import Derived.Test.YtgfdadbgbdcehaaFieldR
import Derived.Test.YtgfdadbgbdcehaaBitsR
import Derived.Test.YtgfdadbgbdcehaaLent
namespace Go.Proofs.Ytgfdadbgbdcehaa
open Go.RowKit
set_option linter.unusedVariables false
set_option linter.unusedSimpArgs false

theorem putL_le (bs : List UInt8) (a s n : Int) : (putL bs a s n).length ≤ bs.length := by
  unfold putL
  cases ht : thereB bs.length a s with
  | false => simp
  | true =>
    have hts : 1 ≤ s ∧ s ≤ 8 ∧ 0 ≤ a ∧ a + s ≤ bs.length := by simpa [thereB] using ht
    cases hf : fitsB n s with
    | false => simp
    | true =>
      simp [numB_length]
      omega
theorem fieldPlaces_walk (w : World) (v : Value) (bs : List UInt8) (h : Bs w v bs) (hl : bs.length ≤ 140737488351232) (a : Int) (ha : (Lit.int .i64 a).wf = true) (s : Int) (hsz : (Lit.int .i64 s).wf = true) (n : Int) (hn : (Lit.int .u64 n).wf = true) (c : Int) (hc : (Lit.int .u8 c).wf = true) (k : Int) (hk : (Lit.int .i64 k).wf = true) :
    Calls Try.prog 4 #[v, .int .i64 a, .int .i64 s, .int .u64 n, .int .u8 c, .int .i64 k] w fun e w' => e = .returned (.bool true) ∧ Same w w' := by
  replace ha := bounds_i64 ha
  replace hsz := bounds_i64 hsz
  replace hn := bounds_u64 hn
  replace hc := bounds_u8 hc
  replace hk := bounds_i64 hk
  obtain ⟨d, rfl⟩ := u8v_of c (by omega) (by omega)
  have s1 := fun w => set_any d a s k w (by omega) (by omega) (by omega) (by omega) (by omega) (by omega)
  have s2 := fun w => rset_any d a s k w (by omega) (by omega) (by omega) (by omega) (by omega) (by omega)
  have s3 := fun w => bits_any d a s w (by omega) (by omega) (by omega) (by omega)
  have s4 := fun w => rbitsv_any d a s w (by omega) (by omega) (by omega) (by omega)
  have p1 := fun v w h => put_bs v bs a s n w h (by omega) (by omega) (by omega) (by omega) (by omega) (by omega) (by omega)
  have p2 := fun v w h => rput_bs v bs a s n w h (by omega) (by omega) (by omega) (by omega) (by omega) (by omega) (by omega)
  have p3 := fun v w h => get_bs v bs a s w h (by omega) (by omega) (by omega) (by omega)
  have p4 := fun v w h => rget_bs v bs a s w h (by omega) (by omega) (by omega) (by omega)
  have hL : (putL bs a s n).length ≤ bs.length := putL_le bs a s n
  generalize setR d a s k = X1 at s1 s2
  generalize setE a s k = X2 at s1 s2
  generalize bitsR d a s = X3 at s3 s4
  generalize bitsE a s = X4 at s3 s4
  generalize putE bs.length a s n = X5 at p1 p2
  generalize putL bs a s n = X6 at p1 p2 hL
  generalize getN bs a s = X7 at p3 p4
  generalize getE bs.length a s = X8 at p3 p4
  have e6 : eqB X6 X6 = true := eqB_true rfl
  have S1 := Lib.hid s1
  have S2 := Lib.hid s2
  have S3 := Lib.hid s3
  have S4 := Lib.hid s4
  have P1 := Lib.hid p1
  have P2 := Lib.hid p2
  have P3 := Lib.hid p3
  have P4 := Lib.hid p4
  clear s1 s2 s3 s4 p1 p2 p3 p4
  go_enter Try.func4, Try.ntmps4
  go_wp2_with fail
  refine (lent_bs v bs w h hl).mono ?_
  rintro e w1 ⟨v1, rfl, hv1, hs1⟩
  go_wp2_with fail
  refine (P1.out v1 w1 hv1.bs).mono ?_
  rintro e w2 ⟨v2, rfl, hv2, hs2⟩
  have hs12 := Same.trans hs1 hs2
  go_wp2_with fail
  refine (P2.out v w2 (h.same hs12)).mono ?_
  rintro e w3 ⟨v3, rfl, hv3, hs3⟩
  have hs13 := Same.trans hs12 hs3
  have hv13 := (hv1.same hs2).same hs3
  have hv23 := hv2.same hs3
  go_wp2_with fail
  refine (P3.out v1 w3 hv13.bs).mono ?_
  rintro e w' ⟨rfl, rfl⟩
  go_wp2_with fail
  refine (P4.out v w3 (h.same hs13)).mono ?_
  rintro e w' ⟨rfl, rfl⟩
  have hc2 := conv_bs (P := Try.prog) (src := 28) (dst := 9) Try.underlying28 Try.underlying5 Try.underlying9 hv23.bs
  have hc3 := conv_bs (P := Try.prog) (src := 28) (dst := 9) Try.underlying28 Try.underlying5 Try.underlying9 hv3.bs
  go_wp2_with fail
  refine (spoil_bs v2 X6 w3 hv23 (by have := hs2.size; have := hs3.size; omega) (by omega)).mono ?_
  rintro e w4 ⟨rfl, hu4⟩
  have hv14 : Lentd w.heap.size w4 v1 bs := hv13.upd hu4 fun k e1 e2 => by
    have h1 := (hv1.room k e1).2
    have h2 := (hv2.ge k e2).1
    omega
  have hs14 : Same w w4 := Same.into hs13 hu4 fun k e => by
    have h2 := (hv2.ge k e).1
    have := hs1.size
    omega
  have hf4 := h.same hs14
  clear hc2 hc3 hv13 hv23 hv3 hv2 hu4 hs13 hs12 hs3 hs2
  go_wp2_with fail
  refine (S1.out w4).mono ?_
  rintro e w' ⟨rfl, rfl⟩
  go_wp2_with fail
  refine (S2.out w4).mono ?_
  rintro e w' ⟨rfl, rfl⟩
  go_wp2_with fail
  refine (S3.out w4).mono ?_
  rintro e w' ⟨rfl, rfl⟩
  go_wp2_with fail
  refine (S4.out w4).mono ?_
  rintro e w' ⟨rfl, rfl⟩
  go_wp2_with fail
  refine (kept_bs v1 v bs w4 hv14 hf4 hl).mono ?_
  rintro e w' ⟨rfl, rfl⟩
  go_wp2_with fail
  refine (known02_any w4).mono ?_
  rintro e w5 ⟨rfl, hs5⟩
  go_wp2_with fail
  go_ret
  exact ⟨rfl, Same.trans hs14 hs5⟩
end Go.Proofs.Ytgfdadbgbdcehaa
