/- window.Come: what is refused, what comes now. -/
import Derived.Test.YtjfcdinobhmmeaaWinPut
import Derived.Test.YtjfcdinobhmmeaaWinPl
import Derived.Deep.RegionHeld3
namespace Go.Proofs.Ytjfcdinobhmmeaa
open Go.RowKit
set_option linter.unusedVariables false
set_option linter.unusedSimpArgs false
attribute [local go_sem ↓] Go.wp_at_zero Go.wp_at_succ

theorem in_any (a n b : Int) (w : World) : Calls Try.prog 22 #[.int .u32 a, .int .i64 n, .int .u32 b] w fun e w' => e = .returned (.bool (inB a n b)) ∧ w' = w := by
  go_enter Try.func22, Try.ntmps22
  go_wp2
  go_ret
  exact ⟨rfl, rfl⟩
section
variable {base : Nat} {W : World} {p : Nat} {V : WV} {s : WSt}
theorem come_full (h : WinV base W p V s) (hs : early s.ts = 64) (n id : Int) :
    Calls Try.prog 9 #[.pointer (some ⟨p, 0, none⟩), .int .u32 n, .bool true, .int .i64 id] W fun r w' => r = .returned (.int .i64 4) ∧ Same W w' := by
  obtain ⟨⟨c0, c1, c2, c3, c4, c5, c6⟩, hf⟩ := h.2.1
  rw [hs] at c6
  clear hf hs h
  go_enter Try.func9, Try.ntmps9
  go_wp2_with fail
  go_ret
  exact ⟨rfl, Upd.refl _ _⟩
theorem come_now (h : WinV base W p V s) (hb : base ≤ W.heap.size) (hs : early s.ts < 64) (hn : s.ts.length ≤ 100000) (n id : Int) :
    Calls Try.prog 9 #[.pointer (some ⟨p, 0, none⟩), .int .u32 n, .bool true, .int .i64 id] W fun r w' => r = .returned (.int .i64 0) ∧ WGrew base (wfoot p V) W p w' { s with ts := s.ts ++ [(id, true)] } := by
  obtain ⟨⟨c0, c1, c2, c3, c4, c5, c6⟩, hf⟩ := h.2.1
  have g1 : ((early s.ts : Int) == 64) = false := by simp; omega
  have hput := put_any h hb hn id true
  have HP := Lib.hid hput
  clear hf hs h hput
  go_enter Try.func9, Try.ntmps9
  go_wp2_with fail
  refine HP.out.mono ?_
  rintro r w' ⟨rfl, hg⟩
  have HG := Lib.hid hg
  clear hg
  go_wp2_with fail
  go_ret
  exact ⟨rfl, HG.out⟩
theorem come_out (h : WinV base W p V s) (hok : s.Ok) (n : Int) (hs : inB s.nx (s.sz - s.bz) n = false) (id : Int) :
    Calls Try.prog 9 #[.pointer (some ⟨p, 0, none⟩), .int .u32 n, .bool false, .int .i64 id] W fun r w' => r = .returned (.int .i64 5) ∧ Same W w' := by
  obtain ⟨⟨c0, c1, c2, c3, c4, c5, c6⟩, hf⟩ := h.2.1
  obtain ⟨b1, b2, b3, -⟩ := hok
  have g2 : IntKind.i64.wrap (s.sz - s.bz) = s.sz - s.bz := by rw [IntKind.wrap_i64]; omega
  have hin := fun w => in_any s.nx (s.sz - s.bz) n w
  rw [hs] at hin
  have HIN := Lib.hid hin
  clear hf hs h hin
  go_enter Try.func9, Try.ntmps9
  go_wp2_with fail
  go_quiet ((go_at_call 22; exact Calls.quiet_of_same (HIN.out _)))
  go_wp2_with fail
  go_ret
  exact ⟨rfl, (Upd.refl _ _).drewN _⟩
theorem come_dup (h : WinV base W p V s) (hok : s.Ok) (n : Int) (hs : inB s.nx (s.sz - s.bz) n = true) (hi : 0 ≤ idxOf n s.ls) (id : Int) :
    Calls Try.prog 9 #[.pointer (some ⟨p, 0, none⟩), .int .u32 n, .bool false, .int .i64 id] W fun r w' => r = .returned (.int .i64 5) ∧ Same W w' := by
  obtain ⟨⟨c0, c1, c2, c3, c4, c5, c6⟩, hf⟩ := h.2.1
  obtain ⟨b1, b2, b3, -⟩ := hok
  have g2 : IntKind.i64.wrap (s.sz - s.bz) = s.sz - s.bz := by rw [IntKind.wrap_i64]; omega
  have hin := fun w => in_any s.nx (s.sz - s.bz) n w
  rw [hs] at hin
  have hcon := fun b w h1 h2 => contains_any V.l s.ls n b w h1 h2
  simp only [hi, decide_true] at hcon
  have HL := Lib.hid (Own.rdr h.2.2.1)
  have HIN := Lib.hid hin
  have HCON := Lib.hid hcon
  clear hf hs h hin hcon hi
  go_enter Try.func9, Try.ntmps9
  go_wp2_with fail
  go_quiet ((go_at_call 22; exact Calls.quiet_of_same (HIN.out _)))
  rename_i nq
  go_wp2_with fail
  have s0 := (Upd.refl (fun _ => False) W).drewN nq
  generalize W.drewN nq = W1 at s0 ⊢
  have k3 := s0.cell c3 (fun h => h)
  have HS0 := Lib.hid s0
  go_region_held3 (fun w' => w'.cell? ⟨p, 3, none⟩ = some V.l) (first | assumption | exact (Upd.refl (fun _ => False) _).drew.cell k3 (fun h => h)) (first
    | (go_at_call 24; refine (of_any n _).mono ?_; rintro r w1 ⟨rfl, hc1, hs1⟩; have e3 := hs1.cell ((Upd.refl (fun _ => False) _).drew.cell k3 (fun h => h)) (fun h => h); have HS1 := Lib.hid hs1)
    | (go_at_call 23; refine (HCON.out _ _ (Rdr.same HL.out (Same.trans (HS0.out.drew) HS1.out)) hc1).mono ?_; rintro r w2 ⟨rfl, hs2⟩; have e4 := hs2.cell e3 (fun h => h); have HS2 := Lib.hid hs2))
  all_goals
    go_wp2_with fail
    go_ret
    exact ⟨rfl, Same.trans (Same.trans (HS0.out.drew) HS1.out) HS2.out⟩
end
end Go.Proofs.Ytjfcdinobhmmeaa
