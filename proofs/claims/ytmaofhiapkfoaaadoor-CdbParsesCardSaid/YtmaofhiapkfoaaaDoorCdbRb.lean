/- The reference's put and Build. -/
import Derived.Test.YtmaofhiapkfoaaaDoorCdbRf
import Derived.Deep.QuietTactic
import Derived.BigQuiet
namespace Go.Proofs.YtmaofhiapkfoaaaDoor
open Go.RowKit
set_option linter.unusedVariables false
set_option linter.unusedSimpArgs false
set_option maxRecDepth 20000
def tooP (s bt n : Int) : Bool := (decide (0 < bt) && !(n / 2 ^ bt.toNat == 0)) || !fitsB n s
def putPE (s bt n : Int) : Int := if s = 0 then (if n = 0 then 0 else 11) else if tooP s bt n then 3 else 0
theorem shl_ge (n bt : Int) (h0 : 0 ≤ n) (hb : 0 ≤ bt ∧ bt ≤ 5) : decide (IntKind.u64.wrap (2 ^ bt.toNat) ≤ n) = !(n / 2 ^ bt.toNat == 0) := by
  have hw1 : IntKind.u64.wrap (2 ^ bt.toNat) = 2 ^ bt.toNat := by
    have : ∀ m : Nat, m ≤ 5 → IntKind.u64.wrap (2 ^ m) = 2 ^ m := by
      intro m hm
      rcases (show m = 0 ∨ m = 1 ∨ m = 2 ∨ m = 3 ∨ m = 4 ∨ m = 5 by omega) with rfl | rfl | rfl | rfl | rfl | rfl <;> decide
    exact this bt.toNat (by omega)
  have hp0 : (0 : Int) < 2 ^ bt.toNat := Int.pow_pos (by decide)
  rw [hw1]
  by_cases h : n < 2 ^ bt.toNat
  · rw [Int.ediv_eq_zero_of_lt h0 h]
    simpa using h
  · have h1 : n / 2 ^ bt.toNat ≠ 0 := by
      intro e
      have := Int.lt_mul_ediv_self_add (x := n) hp0
      rw [e] at this
      omega
    have h2 : (n / 2 ^ bt.toNat == 0) = false := by simpa using h1
    rw [h2]
    simpa using h
/-- What put leaves. -/
def PutQ (w w' : World) (v v' : Value) (s E : Int) (L : List UInt8) : Prop := Same w w' ∧ (E = 0 → (s = 0 ∧ v' = v) ∨ (s ≠ 0 ∧ Fresh w.heap.size w' v' L))
theorem rputp_any (v : Value) (bs : List UInt8) (a s bt n : Int) (w : World) (h : Bs w v bs) (hl : bs.length = 16) (hp : s = 0 ∨ (1 ≤ s ∧ s ≤ 8 ∧ 1 ≤ a ∧ a + s ≤ 16)) (ha : 0 ≤ a ∧ a ≤ 255) (hb : 0 ≤ bt ∧ bt ≤ 5) (hn : 0 ≤ n ∧ n ≤ 18446744073709551615) :
    Calls Tryd.prog 60 #[v, .agg #[.int .i64 a, .int .i64 s, .int .i64 bt], .int .u64 n] w fun e w' => ∃ v', e = .returned (.tuple #[v', .int .i64 (putPE s bt n)]) ∧ PutQ w w' v v' s (putPE s bt n) (putL bs a s n) := by
  by_cases h0 : s = 0
  · subst h0
    unfold putPE
    rw [if_pos rfl]
    by_cases hz : n = 0
    · subst hz
      rw [if_pos rfl]
      go_enter Tryd.func60, Tryd.ntmps60
      go_wp2_with fail
      go_ret2
      exact ⟨_, rfl, (Upd.refl _ w).alloc _, fun _ => .inl ⟨rfl, rfl⟩⟩
    · rw [if_neg hz]
      have hz' : (n != 0) = true := by simpa using hz
      clear hz
      go_enter Tryd.func60, Tryd.ntmps60
      go_wp2_with fail
      go_ret2
      exact ⟨_, rfl, (Upd.refl _ w).alloc _, fun h => by omega⟩
  · have hne : (s == 0) = false := by simpa using h0
    have hpp := hp.resolve_left h0
    have hput := fun W h => rput_bs v bs a s n W h (by omega) (by omega) (by omega) (by omega) (by omega) hn.1 hn.2
    have hpe : putE bs.length a s n = if fitsB n s then 0 else 3 := by
      unfold putE
      have ht : thereB bs.length a s = true := by unfold thereB; rw [hl]; simp; omega
      rw [ht]
      rfl
    rw [hpe] at hput
    have hge := shl_ge n bt hn.1 hb
    have hE : putPE s bt n = if (decide (0 < bt) && !(n / 2 ^ bt.toNat == 0)) || !fitsB n s then 3 else 0 := by unfold putPE tooP; rw [if_neg h0]
    generalize putL bs a s n = L at hput ⊢
    generalize putPE s bt n = E at hE ⊢
    have HB := Lib.hid h
    have H0 := Lib.hid h0
    clear h hpe h0 hp
    have hb64 : bt < 64 := by omega
    by_cases hb0 : 0 < bt
    · have t1 : decide (0 < bt) = true := by simpa using hb0
      rw [t1, Bool.true_and] at hE
      cases hq : (n / 2 ^ bt.toNat == 0) with
      | true =>
        rw [hq] at hge hE
        simp only [Bool.not_true, Bool.false_or] at hge hE
        cases hf : fitsB n s with
        | true =>
          rw [hf] at hput hE
          simp only [Bool.not_true, Bool.false_eq_true, if_true, if_false] at hput hE
          subst hE
          have HPUT := Lib.hid hput
          clear hput hf hq t1
          go_enter Tryd.func60, Tryd.ntmps60
          go_wp2_with fail
          refine (HPUT.out _ (HB.out.same ((Upd.refl _ w).alloc _))).mono ?_
          rintro e w1 ⟨v1, rfl, hf1, hs1⟩
          have HF1 := Lib.hid (hf1.mono (show w.heap.size ≤ _ by simp))
          have HS1 := Lib.hid (Same.trans ((Upd.refl (fun _ => False) w).alloc _) hs1)
          clear hf1 hs1
          go_wp2_with fail
          go_ret2
          exact ⟨_, rfl, HS1.out, fun _ => .inr ⟨H0.out, HF1.out⟩⟩
        | false =>
          rw [hf] at hput hE
          simp only [Bool.not_false, Bool.false_eq_true, if_true, if_false] at hput hE
          subst hE
          have HPUT := Lib.hid hput
          clear hput hf hq t1
          go_enter Tryd.func60, Tryd.ntmps60
          go_wp2_with fail
          refine (HPUT.out _ (HB.out.same ((Upd.refl _ w).alloc _))).mono ?_
          rintro e w1 ⟨v1, rfl, hf1, hs1⟩
          have HS1 := Lib.hid (Same.trans ((Upd.refl (fun _ => False) w).alloc _) hs1)
          clear hf1 hs1
          go_wp2_with fail
          go_ret2
          exact ⟨_, rfl, HS1.out, fun h => by omega⟩
      | false =>
        rw [hq] at hge hE
        simp only [Bool.not_false, Bool.true_or, if_true] at hge hE
        subst hE
        clear hq t1 hput
        go_enter Tryd.func60, Tryd.ntmps60
        go_wp2_with fail
        go_ret2
        exact ⟨_, rfl, (Upd.refl _ w).alloc _, fun h => by omega⟩
    · have t1 : decide (0 < bt) = false := by simpa using hb0
      rw [t1, Bool.false_and, Bool.false_or] at hE
      clear hge
      cases hf : fitsB n s with
      | true =>
        rw [hf] at hput hE
        simp only [Bool.not_true, Bool.false_eq_true, if_true, if_false] at hput hE
        subst hE
        have HPUT := Lib.hid hput
        clear hput hf
        go_enter Tryd.func60, Tryd.ntmps60
        go_wp2_with fail
        refine (HPUT.out _ (HB.out.same ((Upd.refl _ w).alloc _))).mono ?_
        rintro e w1 ⟨v1, rfl, hf1, hs1⟩
        have HF1 := Lib.hid (hf1.mono (show w.heap.size ≤ _ by simp))
        have HS1 := Lib.hid (Same.trans ((Upd.refl (fun _ => False) w).alloc _) hs1)
        clear hf1 hs1
        go_wp2_with fail
        go_ret2
        exact ⟨_, rfl, HS1.out, fun _ => .inr ⟨H0.out, HF1.out⟩⟩
      | false =>
        rw [hf] at hput hE
        simp only [Bool.not_false, Bool.false_eq_true, if_true, if_false] at hput hE
        subst hE
        have HPUT := Lib.hid hput
        clear hput hf
        go_enter Tryd.func60, Tryd.ntmps60
        go_wp2_with fail
        refine (HPUT.out _ (HB.out.same ((Upd.refl _ w).alloc _))).mono ?_
        rintro e w1 ⟨v1, rfl, hf1, hs1⟩
        have HS1 := Lib.hid (Same.trans ((Upd.refl (fun _ => False) w).alloc _) hs1)
        clear hf1 hs1
        go_wp2_with fail
        go_ret2
        exact ⟨_, rfl, HS1.out, fun h => by omega⟩
end Go.Proofs.YtmaofhiapkfoaaaDoor
