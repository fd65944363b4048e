/- Ready, Drop of the reads. -/
import Derived.Test.YtoepflfchcoogaaReadT
import Derived.Test.YtoepflfchcoogaaSeqVals
namespace Go.Proofs.Ytoepflfchcoogaa
open Go.RowKit
set_option linter.unusedVariables false
set_option linter.unusedSimpArgs false
attribute [local go_sem ↓] Go.wp_at_zero Go.wp_at_succ
theorem values_any (A : Option Addr) (n cap : Nat) (w : World) : Calls Try.prog 48 #[.slice A n cap] w fun e w' => e = .returned (.func (.func 55) #[] #[.pointer (some ⟨w.heap.size, 0, none⟩)]) ∧ w' = w.alloc (.cells #[.slice A n cap] 22) := by
  go_enter Try.func48, Try.ntmps48
  go_wp2
  go_ret
  exact ⟨rfl, rfl⟩
section
variable {base : Nat} {F : Nat → Prop} {W : World} {p : Nat} {v : Value} {ls : List (Int × Int)}
theorem ready_any (hv : RdV base W p v ls) (hb : base ≤ W.heap.size) (hlen : ls.length ≤ 100) (ap : Int) :
    Calls Try.prog 41 #[.pointer (some ⟨p, 0, none⟩), .int .i64 ap] W fun e w' => ∃ Bs oA oc, e = .returned (.func (.func 55) #[] #[.pointer (some ⟨Bs, 0, none⟩)]) ∧
      w'.cell? ⟨Bs, 0, none⟩ = some (.slice oA ((ls.filter fun x : Int × Int => decide (x.2 ≤ ap)).map (·.1)).length oc) ∧
      Own W.heap.size w' (.slice oA ((ls.filter fun x : Int × Int => decide (x.2 ≤ ap)).map (·.1)).length oc) 1 (((ls.filter fun x : Int × Int => decide (x.2 ≤ ap)).map (·.1)).map numC) ∧
      (∃ vl, RdV base w' p vl (ls.filter fun x => !(decide (x.2 ≤ ap))) ∧ (∀ k, rdfoot p vl k → rdfoot p v k ∨ W.heap.size ≤ k)) ∧ Upd (rdfoot p v) W w' := by
  have hbc := box_cell W (.int .i64 ap) 2
  have hs0 := (Upd.refl (fun _ => False) W).alloc (.cells #[.int .i64 ap] 2)
  have hT := Lib.hid (take_ready (hv.upd hs0 (fun _ _ h => h)) (by simp; omega) hlen ap W.heap.size hbc)
  have HS0 := Lib.hid hs0
  have hp := hv.2.1.lt
  have HV := Lib.hid hv
  have HB := Lib.hid hb
  generalize (ls.filter fun x : Int × Int => decide (x.2 ≤ ap)).map (·.1) = out at hT ⊢
  generalize (ls.filter fun x : Int × Int => !(decide (x.2 ≤ ap))) = left at hT ⊢
  clear hs0 hbc hv hb hlen
  go_enter Try.func41, Try.ntmps41
  go_wp2_with fail
  refine hT.out.mono ?_
  rintro r w1 ⟨vo, rfl, hO, ⟨vl, k1, k2, k3⟩, hu⟩
  obtain ⟨oA, on, oc, rfl, ol, om, -⟩ := hO.open_
  obtain rfl : out.length = on := by simpa using ol
  have HO := Lib.hid hO
  have HK := Lib.hid (And.intro k1 (And.intro k2 k3))
  have HU := Lib.hid hu
  clear hO k1 k2 k3 hu ol hT
  go_wp2_with fail
  refine (values_any _ _ _ _).mono ?_
  rintro r w2 ⟨rfl, rfl⟩
  go_wp2_with fail
  go_ret
  have hal := (Upd.refl (fun _ => False) w1).alloc (.cells #[.slice oA out.length oc] 22)
  exact ⟨_, oA, oc, rfl, box_cell w1 _ _, (HO.out.same hal).mono (by simp), ⟨vl, HK.out.1.upd hal (fun _ _ h => h), fun k hk => (HK.out.2.1 k hk).imp (fun e => e) (fun e => by simp at e; omega)⟩, Upd.trans (Upd.trans (HS0.out.mono fun _ _ h => h.elim) HU.out fun k _ e => e) (hal.mono fun _ _ h => h.elim) fun k _ e => e⟩
theorem drop_any (hv : RdV base W p v ls) (hb : base ≤ W.heap.size) (hlen : ls.length ≤ 100) :
    Calls Try.prog 25 #[.pointer (some ⟨p, 0, none⟩)] W fun e w' => ∃ vo, e = .returned vo ∧ Own W.heap.size w' vo 1 ((ls.map (·.1)).map numC) ∧ (∃ vl, RdV base w' p vl [] ∧ (∀ k, rdfoot p vl k → rdfoot p v k ∨ W.heap.size ≤ k) ∧ ∀ k, room vo = some k → ¬ rdfoot p vl k) ∧ Upd (rdfoot p v) W w' := by
  have hT := take_drop hv hb hlen
  rw [show ls.filter (fun _ : Int × Int => true) = ls by simp, show (ls.filter fun _ : Int × Int => !true) = [] by simp] at hT
  have HT := Lib.hid hT
  clear hT hv
  go_enter Try.func25, Try.ntmps25
  go_wp2_with fail
  refine HT.out.mono ?_
  rintro r w1 ⟨vo, rfl, hO, hk, hu⟩
  obtain ⟨oA, on, oc, rfl, ol, om, -⟩ := hO.open_
  have H := Lib.hid (And.intro hO (And.intro hk hu))
  clear hO hk hu ol HT
  go_wp2_with fail
  go_ret
  exact ⟨_, rfl, H.out.1, H.out.2.1, H.out.2.2⟩
end
end Go.Proofs.Ytoepflfchcoogaa
