/- Letters (chapter 17): the reference's Put. -/
import Derived.Test.YtfafepmghcobdaaPduT
namespace Go.Proofs.Ytfafepmghcobdaa
open Go.RowKit
set_option linter.unusedVariables false
set_option linter.unusedSimpArgs false
set_option maxRecDepth 100000
set_option maxHeartbeats 8000000
theorem PB.low {w w1 w2 : World} {p : Pd} {v : Value} {o : Ag} {B : Nat} (h : PB w w1 p v o) (hB : w.heap.size + 2 ≤ B) (hu : LowK B w1 w2) : PB w w2 p v o :=
  ⟨Same.into h.1 hu (fun k hk => by omega), fun j x hj => hu.cell (h.2.1 j x hj) (show ¬ B ≤ w.heap.size by omega), fun j x hj => hu.cell (h.2.2.1 j x hj) (show ¬ B ≤ w.heap.size + 1 by omega), Nat.le_trans h.2.2.2 hu.size⟩
theorem rput_bad1 (p : Pd) (o : Ag) (A : Option Addr) (n cap : Nat) (h : o.right = false) (w : World) : Calls Try.prog 19 #[pdA p (.slice A n cap), agA o] w fun e w' => e = .returned (.tuple #[.slice none 0 0, .int .i64 1]) ∧ Same w w' := by
  have HR := Lib.hid (fun W => rright_any o W)
  rw [h] at HR
  unfold agA at HR ⊢
  unfold pdA
  go_enter Try.func19, Try.ntmps19
  go_wp2_with fail
  show Calls Try.prog _ _ ((w.alloc (.cells (pdC p (.slice A n cap)).toArray 42)).alloc (.cells (agC o).toArray 24)) _
  have hpb := PB.init w p (.slice A n cap) o 42 24
  generalize (w.alloc (.cells (pdC p (.slice A n cap)).toArray 42)).alloc (.cells (agC o).toArray 24) = w0 at hpb ⊢
  refine (HR.out _).mono ?_
  rintro e w1 ⟨rfl, hs⟩
  have HPB := Lib.hid (hpb.same hs)
  clear hpb hs HR
  go_wp2_with fail
  go_ret2
  exact ⟨rfl, HPB.out.1⟩
theorem rput_bad20 (p : Pd) (o : Ag) (A : Option Addr) (n cap : Nat) (h : o.right = true) (y0 : p.op < 0) (w : World) : Calls Try.prog 19 #[pdA p (.slice A n cap), agA o] w fun e w' => e = .returned (.tuple #[.slice none 0 0, .int .i64 1]) ∧ Same w w' := by
  have HR := Lib.hid (fun W => rright_any o W)
  rw [h] at HR
  unfold agA at HR ⊢
  unfold pdA
  go_enter Try.func19, Try.ntmps19
  go_wp2_with fail
  show Calls Try.prog _ _ ((w.alloc (.cells (pdC p (.slice A n cap)).toArray 42)).alloc (.cells (agC o).toArray 24)) _
  have hpb := PB.init w p (.slice A n cap) o 42 24
  generalize (w.alloc (.cells (pdC p (.slice A n cap)).toArray 42)).alloc (.cells (agC o).toArray 24) = w0 at hpb ⊢
  refine (HR.out _).mono ?_
  rintro e w1 ⟨rfl, hs⟩
  have HPB := Lib.hid (hpb.same hs)
  clear hpb hs HR
  have c0 := HPB.out.2.1 0 _ rfl
  have c2 := HPB.out.2.1 2 _ rfl
  have c3 := HPB.out.2.1 3 _ rfl
  have c4 := HPB.out.2.1 4 _ rfl
  go_wp2_with fail
  go_ret2
  exact ⟨rfl, HPB.out.1⟩
theorem rput_bad21 (p : Pd) (o : Ag) (A : Option Addr) (n cap : Nat) (h : o.right = true) (n0 : ¬ p.op < 0) (y1 : 63 < p.op) (w : World) : Calls Try.prog 19 #[pdA p (.slice A n cap), agA o] w fun e w' => e = .returned (.tuple #[.slice none 0 0, .int .i64 1]) ∧ Same w w' := by
  have HR := Lib.hid (fun W => rright_any o W)
  rw [h] at HR
  unfold agA at HR ⊢
  unfold pdA
  go_enter Try.func19, Try.ntmps19
  go_wp2_with fail
  show Calls Try.prog _ _ ((w.alloc (.cells (pdC p (.slice A n cap)).toArray 42)).alloc (.cells (agC o).toArray 24)) _
  have hpb := PB.init w p (.slice A n cap) o 42 24
  generalize (w.alloc (.cells (pdC p (.slice A n cap)).toArray 42)).alloc (.cells (agC o).toArray 24) = w0 at hpb ⊢
  refine (HR.out _).mono ?_
  rintro e w1 ⟨rfl, hs⟩
  have HPB := Lib.hid (hpb.same hs)
  clear hpb hs HR
  have c0 := HPB.out.2.1 0 _ rfl
  have c2 := HPB.out.2.1 2 _ rfl
  have c3 := HPB.out.2.1 3 _ rfl
  have c4 := HPB.out.2.1 4 _ rfl
  go_wp2_with fail
  go_ret2
  exact ⟨rfl, HPB.out.1⟩
theorem rput_bad22 (p : Pd) (o : Ag) (A : Option Addr) (n cap : Nat) (h : o.right = true) (n0 : ¬ p.op < 0) (n1 : ¬ 63 < p.op) (y2 : p.flags < 0) (w : World) : Calls Try.prog 19 #[pdA p (.slice A n cap), agA o] w fun e w' => e = .returned (.tuple #[.slice none 0 0, .int .i64 1]) ∧ Same w w' := by
  have HR := Lib.hid (fun W => rright_any o W)
  rw [h] at HR
  unfold agA at HR ⊢
  unfold pdA
  go_enter Try.func19, Try.ntmps19
  go_wp2_with fail
  show Calls Try.prog _ _ ((w.alloc (.cells (pdC p (.slice A n cap)).toArray 42)).alloc (.cells (agC o).toArray 24)) _
  have hpb := PB.init w p (.slice A n cap) o 42 24
  generalize (w.alloc (.cells (pdC p (.slice A n cap)).toArray 42)).alloc (.cells (agC o).toArray 24) = w0 at hpb ⊢
  refine (HR.out _).mono ?_
  rintro e w1 ⟨rfl, hs⟩
  have HPB := Lib.hid (hpb.same hs)
  clear hpb hs HR
  have c0 := HPB.out.2.1 0 _ rfl
  have c2 := HPB.out.2.1 2 _ rfl
  have c3 := HPB.out.2.1 3 _ rfl
  have c4 := HPB.out.2.1 4 _ rfl
  go_wp2_with fail
  go_ret2
  exact ⟨rfl, HPB.out.1⟩
theorem rput_bad23 (p : Pd) (o : Ag) (A : Option Addr) (n cap : Nat) (h : o.right = true) (n0 : ¬ p.op < 0) (n1 : ¬ 63 < p.op) (n2 : ¬ p.flags < 0) (y3 : 255 < p.flags) (w : World) : Calls Try.prog 19 #[pdA p (.slice A n cap), agA o] w fun e w' => e = .returned (.tuple #[.slice none 0 0, .int .i64 1]) ∧ Same w w' := by
  have HR := Lib.hid (fun W => rright_any o W)
  rw [h] at HR
  unfold agA at HR ⊢
  unfold pdA
  go_enter Try.func19, Try.ntmps19
  go_wp2_with fail
  show Calls Try.prog _ _ ((w.alloc (.cells (pdC p (.slice A n cap)).toArray 42)).alloc (.cells (agC o).toArray 24)) _
  have hpb := PB.init w p (.slice A n cap) o 42 24
  generalize (w.alloc (.cells (pdC p (.slice A n cap)).toArray 42)).alloc (.cells (agC o).toArray 24) = w0 at hpb ⊢
  refine (HR.out _).mono ?_
  rintro e w1 ⟨rfl, hs⟩
  have HPB := Lib.hid (hpb.same hs)
  clear hpb hs HR
  have c0 := HPB.out.2.1 0 _ rfl
  have c2 := HPB.out.2.1 2 _ rfl
  have c3 := HPB.out.2.1 3 _ rfl
  have c4 := HPB.out.2.1 4 _ rfl
  go_wp2_with fail
  go_ret2
  exact ⟨rfl, HPB.out.1⟩
theorem rput_bad24 (p : Pd) (o : Ag) (A : Option Addr) (n cap : Nat) (h : o.right = true) (n0 : ¬ p.op < 0) (n1 : ¬ 63 < p.op) (n2 : ¬ p.flags < 0) (n3 : ¬ 255 < p.flags) (y4 : p.b2 < 0) (w : World) : Calls Try.prog 19 #[pdA p (.slice A n cap), agA o] w fun e w' => e = .returned (.tuple #[.slice none 0 0, .int .i64 1]) ∧ Same w w' := by
  have HR := Lib.hid (fun W => rright_any o W)
  rw [h] at HR
  unfold agA at HR ⊢
  unfold pdA
  go_enter Try.func19, Try.ntmps19
  go_wp2_with fail
  show Calls Try.prog _ _ ((w.alloc (.cells (pdC p (.slice A n cap)).toArray 42)).alloc (.cells (agC o).toArray 24)) _
  have hpb := PB.init w p (.slice A n cap) o 42 24
  generalize (w.alloc (.cells (pdC p (.slice A n cap)).toArray 42)).alloc (.cells (agC o).toArray 24) = w0 at hpb ⊢
  refine (HR.out _).mono ?_
  rintro e w1 ⟨rfl, hs⟩
  have HPB := Lib.hid (hpb.same hs)
  clear hpb hs HR
  have c0 := HPB.out.2.1 0 _ rfl
  have c2 := HPB.out.2.1 2 _ rfl
  have c3 := HPB.out.2.1 3 _ rfl
  have c4 := HPB.out.2.1 4 _ rfl
  go_wp2_with fail
  go_ret2
  exact ⟨rfl, HPB.out.1⟩
theorem rput_bad25 (p : Pd) (o : Ag) (A : Option Addr) (n cap : Nat) (h : o.right = true) (n0 : ¬ p.op < 0) (n1 : ¬ 63 < p.op) (n2 : ¬ p.flags < 0) (n3 : ¬ 255 < p.flags) (n4 : ¬ p.b2 < 0) (y5 : 255 < p.b2) (w : World) : Calls Try.prog 19 #[pdA p (.slice A n cap), agA o] w fun e w' => e = .returned (.tuple #[.slice none 0 0, .int .i64 1]) ∧ Same w w' := by
  have HR := Lib.hid (fun W => rright_any o W)
  rw [h] at HR
  unfold agA at HR ⊢
  unfold pdA
  go_enter Try.func19, Try.ntmps19
  go_wp2_with fail
  show Calls Try.prog _ _ ((w.alloc (.cells (pdC p (.slice A n cap)).toArray 42)).alloc (.cells (agC o).toArray 24)) _
  have hpb := PB.init w p (.slice A n cap) o 42 24
  generalize (w.alloc (.cells (pdC p (.slice A n cap)).toArray 42)).alloc (.cells (agC o).toArray 24) = w0 at hpb ⊢
  refine (HR.out _).mono ?_
  rintro e w1 ⟨rfl, hs⟩
  have HPB := Lib.hid (hpb.same hs)
  clear hpb hs HR
  have c0 := HPB.out.2.1 0 _ rfl
  have c2 := HPB.out.2.1 2 _ rfl
  have c3 := HPB.out.2.1 3 _ rfl
  have c4 := HPB.out.2.1 4 _ rfl
  go_wp2_with fail
  go_ret2
  exact ⟨rfl, HPB.out.1⟩
theorem rput_bad26 (p : Pd) (o : Ag) (A : Option Addr) (n cap : Nat) (h : o.right = true) (n0 : ¬ p.op < 0) (n1 : ¬ 63 < p.op) (n2 : ¬ p.flags < 0) (n3 : ¬ 255 < p.flags) (n4 : ¬ p.b2 < 0) (n5 : ¬ 255 < p.b2) (y6 : p.b3 < 0) (w : World) : Calls Try.prog 19 #[pdA p (.slice A n cap), agA o] w fun e w' => e = .returned (.tuple #[.slice none 0 0, .int .i64 1]) ∧ Same w w' := by
  have HR := Lib.hid (fun W => rright_any o W)
  rw [h] at HR
  unfold agA at HR ⊢
  unfold pdA
  go_enter Try.func19, Try.ntmps19
  go_wp2_with fail
  show Calls Try.prog _ _ ((w.alloc (.cells (pdC p (.slice A n cap)).toArray 42)).alloc (.cells (agC o).toArray 24)) _
  have hpb := PB.init w p (.slice A n cap) o 42 24
  generalize (w.alloc (.cells (pdC p (.slice A n cap)).toArray 42)).alloc (.cells (agC o).toArray 24) = w0 at hpb ⊢
  refine (HR.out _).mono ?_
  rintro e w1 ⟨rfl, hs⟩
  have HPB := Lib.hid (hpb.same hs)
  clear hpb hs HR
  have c0 := HPB.out.2.1 0 _ rfl
  have c2 := HPB.out.2.1 2 _ rfl
  have c3 := HPB.out.2.1 3 _ rfl
  have c4 := HPB.out.2.1 4 _ rfl
  go_wp2_with fail
  go_ret2
  exact ⟨rfl, HPB.out.1⟩
theorem rput_bad27 (p : Pd) (o : Ag) (A : Option Addr) (n cap : Nat) (h : o.right = true) (n0 : ¬ p.op < 0) (n1 : ¬ 63 < p.op) (n2 : ¬ p.flags < 0) (n3 : ¬ 255 < p.flags) (n4 : ¬ p.b2 < 0) (n5 : ¬ 255 < p.b2) (n6 : ¬ p.b3 < 0) (y7 : 255 < p.b3) (w : World) : Calls Try.prog 19 #[pdA p (.slice A n cap), agA o] w fun e w' => e = .returned (.tuple #[.slice none 0 0, .int .i64 1]) ∧ Same w w' := by
  have HR := Lib.hid (fun W => rright_any o W)
  rw [h] at HR
  unfold agA at HR ⊢
  unfold pdA
  go_enter Try.func19, Try.ntmps19
  go_wp2_with fail
  show Calls Try.prog _ _ ((w.alloc (.cells (pdC p (.slice A n cap)).toArray 42)).alloc (.cells (agC o).toArray 24)) _
  have hpb := PB.init w p (.slice A n cap) o 42 24
  generalize (w.alloc (.cells (pdC p (.slice A n cap)).toArray 42)).alloc (.cells (agC o).toArray 24) = w0 at hpb ⊢
  refine (HR.out _).mono ?_
  rintro e w1 ⟨rfl, hs⟩
  have HPB := Lib.hid (hpb.same hs)
  clear hpb hs HR
  have c0 := HPB.out.2.1 0 _ rfl
  have c2 := HPB.out.2.1 2 _ rfl
  have c3 := HPB.out.2.1 3 _ rfl
  have c4 := HPB.out.2.1 4 _ rfl
  go_wp2_with fail
  go_ret2
  exact ⟨rfl, HPB.out.1⟩
theorem rput_bad2 (p : Pd) (o : Ag) (A : Option Addr) (n cap : Nat) (h : o.right = true) (hf : p.fits = false) (w : World) : Calls Try.prog 19 #[pdA p (.slice A n cap), agA o] w fun e w' => e = .returned (.tuple #[.slice none 0 0, .int .i64 1]) ∧ Same w w' := by
  unfold Pd.fits at hf
  have hf := of_decide_eq_false hf
  by_cases n0 : p.op < 0
  · exact rput_bad20 p o A n cap h  n0 w
  by_cases n1 : 63 < p.op
  · exact rput_bad21 p o A n cap h n0 n1 w
  by_cases n2 : p.flags < 0
  · exact rput_bad22 p o A n cap h n0 n1 n2 w
  by_cases n3 : 255 < p.flags
  · exact rput_bad23 p o A n cap h n0 n1 n2 n3 w
  by_cases n4 : p.b2 < 0
  · exact rput_bad24 p o A n cap h n0 n1 n2 n3 n4 w
  by_cases n5 : 255 < p.b2
  · exact rput_bad25 p o A n cap h n0 n1 n2 n3 n4 n5 w
  by_cases n6 : p.b3 < 0
  · exact rput_bad26 p o A n cap h n0 n1 n2 n3 n4 n5 n6 w
  by_cases n7 : 255 < p.b3
  · exact rput_bad27 p o A n cap h n0 n1 n2 n3 n4 n5 n6 n7 w
  exact absurd ⟨⟨by omega, by omega⟩, ⟨by omega, by omega⟩, ⟨by omega, by omega⟩, by omega, by omega⟩ hf
theorem rput_long (p : Pd) (o : Ag) (A : Option Addr) (cap : Nat) (h : o.right = true) (hf : p.fits = true) (hm : o.most < (p.data.length : Int)) (w : World) : Calls Try.prog 19 #[pdA p (.slice A p.data.length cap), agA o] w fun e w' => e = .returned (.tuple #[.slice none 0 0, .int .i64 3]) ∧ Same w w' := by
  unfold Pd.fits at hf
  obtain ⟨f1, f2, f3, f4⟩ := of_decide_eq_true hf
  have n0 : ¬ p.op < 0 := by omega
  have n1 : ¬ 63 < p.op := by omega
  have n2 : ¬ p.flags < 0 := by omega
  have n3 : ¬ 255 < p.flags := by omega
  have n4 : ¬ p.b2 < 0 := by omega
  have n5 : ¬ 255 < p.b2 := by omega
  have n6 : ¬ p.b3 < 0 := by omega
  have n7 : ¬ 255 < p.b3 := by omega
  have HFF := Lib.hid (And.intro f1 (And.intro f2 (And.intro f3 f4)))
  clear f1 f2 f3 f4 hf
  have HR := Lib.hid (fun W => rright_any o W)
  rw [h] at HR
  unfold agA at HR ⊢
  unfold pdA
  go_enter Try.func19, Try.ntmps19
  go_wp2_with fail
  show Calls Try.prog _ _ ((w.alloc (.cells (pdC p (.slice A p.data.length cap)).toArray 42)).alloc (.cells (agC o).toArray 24)) _
  have hpb := PB.init w p (.slice A p.data.length cap) o 42 24
  generalize (w.alloc (.cells (pdC p (.slice A p.data.length cap)).toArray 42)).alloc (.cells (agC o).toArray 24) = w0 at hpb ⊢
  refine (HR.out _).mono ?_
  rintro e w1 ⟨rfl, hs⟩
  have HPB := Lib.hid (hpb.same hs)
  clear hpb hs HR
  have c0 := HPB.out.2.1 0 _ rfl
  have c1 := HPB.out.2.1 1 _ rfl
  have c2 := HPB.out.2.1 2 _ rfl
  have c3 := HPB.out.2.1 3 _ rfl
  have c4 := HPB.out.2.1 4 _ rfl
  have c5 := HPB.out.2.1 5 _ rfl
  have c6 := HPB.out.2.1 6 _ rfl
  have c7 := HPB.out.2.1 7 _ rfl
  have c8 := HPB.out.2.1 8 _ rfl
  have c9 := HPB.out.2.1 9 _ rfl
  have c10 := HPB.out.2.1 10 _ rfl
  have c11 := HPB.out.2.1 11 _ rfl
  have c12 := HPB.out.2.1 12 _ rfl
  have c13 := HPB.out.2.1 13 _ rfl
  have c14 := HPB.out.2.1 14 _ rfl
  have d0 := HPB.out.2.2.1 0 _ rfl
  have d1 := HPB.out.2.2.1 1 _ rfl
  have d2 := HPB.out.2.2.1 2 _ rfl
  go_wp2_with fail
  go_ret2
  exact ⟨rfl, HPB.out.1⟩
end Go.Proofs.Ytfafepmghcobdaa
