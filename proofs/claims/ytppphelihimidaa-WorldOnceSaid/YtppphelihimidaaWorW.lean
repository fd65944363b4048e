/- The world: Double, Send, Cut, Len, Taken, Lost. -/
import Derived.Test.YtppphelihimidaaWorU
namespace Go.Proofs.Ytppphelihimidaa
open Go.RowKit
set_option linter.unusedVariables false
set_option linter.unusedSimpArgs false
attribute [local go_sem ↓] Go.wp_at_zero Go.wp_at_succ
section
variable {base : Nat} {D : Nat → Prop} {W W1 W' : World} {p : Nat} {s s' : WrS} {ls ls' : List Lt} {cs cs' : List Int}
theorem WMore.from (hs : Same W W1) (h : WMore base D W1 p s W' s' ls' cs') : WMore base D W p s W' s' ls' cs' := by
  obtain ⟨D', a1, a2, a3⟩ := h
  exact ⟨D', a1, fun k hk => (a2 k hk).imp id fun e => Nat.le_trans hs.size e, Same.then hs a3⟩
/-- A letter more. -/
def PutR (base : Nat) (D : Nat → Prop) (W : World) (p : Nat) (s : WrS) (ls : List Lt) (cs : List Int) (m : Msg) (w' : World) : Prop := ∃ v' x, WMore base D W p s w' { s with vl := v' } (ls ++ [x]) cs ∧ x.msg = m
theorem double_full (h : WoV base D W p s ls cs) (k : Nat) (hk : k < ls.length) (hl : ls.length ≤ 20000) (hf : 10000 ≤ ls.length) :
    Calls Try.prog 18 #[.pointer (some ⟨p, 0, none⟩), .int .i64 k] W fun e w' => e = .returned (.int .i64 4) ∧ Same W w' := by
  have HL := Lib.hid (look_ok h k hk hl)
  have HPF := Lib.hid (fun w' (hs : Same W w') f t A n c => put_full (h.same hs) f t (.slice A n c) ⟨_, _, _, rfl⟩ hf)
  have hp := h.2.1.lt
  generalize ls[k]'hk = x at HL
  clear h hk
  go_enter Try.func18, Try.ntmps18
  go_wp2_with fail
  refine HL.out.mono ?_
  rintro e w1 ⟨v', rfl, hfr, hs1⟩
  obtain ⟨A2, n2, c2, rfl, -⟩ := Own.open_ hfr
  unfold letV
  obtain ⟨⟨a0, a1, a2⟩, -⟩ := Box3.new w1 (.int .i64 x.f) (.int .i64 x.t) (.slice A2 n2 c2) 40 _ rfl
  have HS1 := Lib.hid (hs1.alloc (.cells #[.int .i64 x.f, .int .i64 x.t, .slice A2 n2 c2] 40))
  clear hfr hs1
  go_wp2_with fail
  refine (HPF.out _ HS1.out _ _ _ _ _).mono ?_
  rintro e w2 ⟨rfl, hs2⟩
  have HS2 := Lib.hid (Same.trans HS1.out hs2)
  clear hs2
  go_wp2_with fail
  go_ret
  exact ⟨rfl, HS2.out⟩
theorem double_ok (h : WoV base D W p s ls cs) (hb : base ≤ W.heap.size) (k : Nat) (hk : k < ls.length) (hl : ls.length < 10000) :
    Calls Try.prog 18 #[.pointer (some ⟨p, 0, none⟩), .int .i64 k] W fun e w' => e = .returned (.int .i64 0) ∧ PutR base D W p s ls cs (ls[k]'hk).msg w' := by
  have HL := Lib.hid (look_ok h k hk (by omega))
  have hbl := (h.2.2.2.2.1 _ (List.getElem_mem hk)).2.2
  have HPF := Lib.hid (fun w' (hs : Same W w') f t v bs (hv : Bs w' v bs) (hbb : bs.length ≤ 65536) => put_ok (h.same hs) (Nat.le_trans hb hs.size) f t v bs hv hbb hl)
  have hp := h.2.1.lt
  generalize ls[k]'hk = x at HL hbl ⊢
  clear h hk
  go_enter Try.func18, Try.ntmps18
  go_wp2_with fail
  refine HL.out.mono ?_
  rintro e w1 ⟨v', rfl, hfr, hs1⟩
  obtain ⟨A2, n2, c2, rfl, -⟩ := Own.open_ hfr
  unfold letV
  obtain ⟨⟨a0, a1, a2⟩, -⟩ := Box3.new w1 (.int .i64 x.f) (.int .i64 x.t) (.slice A2 n2 c2) 40 _ rfl
  have HS1 := Lib.hid (hs1.alloc (.cells #[.int .i64 x.f, .int .i64 x.t, .slice A2 n2 c2] 40))
  have HP := Lib.hid (HPF.out _ HS1.out x.f x.t _ x.bs (hfr.bs.same ((Upd.refl _ _).alloc _)) hbl)
  clear hfr hs1
  go_wp2_with fail
  refine HP.out.mono ?_
  rintro e w2 ⟨rfl, v', y, hm, hy⟩
  have HM := Lib.hid (And.intro (hm.from HS1.out) hy)
  clear hm hy
  go_wp2_with fail
  go_ret
  exact ⟨rfl, v', y, HM.out.1, HM.out.2⟩
/-- What Send answers where it takes none. -/
def sendCode (sh : Bool) (n : Nat) (f t : Int) (len : Nat) (ms : Nat) : Int :=
  if sh then 5 else if thereL n [f, t] = false then 1 else if 65536 < len then 3 else if 10000 ≤ ms then 4 else 0
def SendR (base : Nat) (D : Nat → Prop) (W : World) (p : Nat) (s : WrS) (ls : List Lt) (cs : List Int) (m : Msg) (c : Int) (w' : World) : Prop := if c = 0 then PutR base D W p s ls cs m w' else Same W w'
theorem SendR.no {m : Msg} {c : Int} (hc : c ≠ 0) (hs : Same W W') : SendR base D W p s ls cs m c W' := by
  unfold SendR
  rw [if_neg hc]
  exact hs
theorem SendR.yes {m : Msg} (hs : PutR base D W p s ls cs m W') : SendR base D W p s ls cs m 0 W' := hs
theorem send_nil (f t : Int) (v : Value) (w : World) : Calls Try.prog 13 #[.pointer none, .int .i64 f, .int .i64 t, v] w fun e w' => e = .returned (.int .i64 2) ∧ Same w w' := by
  go_enter Try.func13, Try.ntmps13
  go_wp2_with fail
  go_ret
  exact ⟨rfl, Upd.refl _ _⟩
theorem send_any (h : WoV base D W p s ls cs) (hb : base ≤ W.heap.size) (f t : Int) (v : Value) (bs : List UInt8) (hv : Bs W v bs) (hbl : bs.length ≤ 200000000000000) (hl : ls.length ≤ 20000) :
    Calls Try.prog 13 #[.pointer (some ⟨p, 0, none⟩), .int .i64 f, .int .i64 t, v] W fun e w' => e = .returned (.int .i64 (sendCode s.sh cs.length f t bs.length ls.length)) ∧
      SendR base D W p s ls cs (f, t, bs) (sendCode s.sh cs.length f t bs.length ls.length) w' := by
  have c9 := h.2.1.1.2.2.2.2.2.2.2.2.2
  have hp := h.2.1.lt
  unfold sendCode
  cases hsh : s.sh with
  | true =>
    rw [hsh] at c9
    clear h hv hsh
    simp only [if_true]
    go_enter Try.func13, Try.ntmps13
    go_wp2_with fail
    go_ret
    exact ⟨rfl, SendR.no (by decide) (Upd.refl _ _)⟩
  | false =>
    rw [hsh] at c9
    simp only [Bool.false_eq_true, if_false]
    have hs0 := (Upd.refl (fun _ => False) W).alloc (.cells #[.int .i64 f, .int .i64 t] 3)
    have hx0 : Rdr (W.alloc (.cells #[.int .i64 f, .int .i64 t] 3)) (.slice (some ⟨W.heap.size, 0, none⟩) 2 2) 1 ([f, t].map nC) := Rdr.boxn W [nC f, nC t] 3 W.heap.size 2 rfl 1 rfl (by decide)
    have hth := there_any ((h.same hs0).2.1) ((h.same hs0).2.2.2.1.rdr) (xs := [f, t]) hx0 (by simp)
    have HS0 := Lib.hid hs0
    cases hT : thereL cs.length [f, t] with
    | false =>
      rw [hT] at hth
      have HT := Lib.hid hth
      clear h hv hsh hth hs0 hx0 hT
      simp only [if_true]
      go_enter Try.func13, Try.ntmps13
      go_wp2_with fail
      refine HT.out.mono ?_
      rintro e w1 ⟨rfl, hs1⟩
      have HS1 := Lib.hid (Same.trans HS0.out hs1)
      clear hs1
      go_wp2_with fail
      go_ret
      exact ⟨rfl, SendR.no (by decide) HS1.out⟩
    | true =>
      rw [hT] at hth
      have HT := Lib.hid hth
      simp only [Bool.true_eq_false, if_false]
      obtain ⟨A, cap, rfl, -⟩ := id hv
      by_cases hlen : 65536 < bs.length
      · simp only [hlen, if_true]
        have g1 : (65536 : Int) < (bs.length : Int) := by omega
        clear h hv hsh hth hs0 hx0 hT
        go_enter Try.func13, Try.ntmps13
        go_wp2_with fail
        refine HT.out.mono ?_
        rintro e w1 ⟨rfl, hs1⟩
        have HS1 := Lib.hid (Same.trans HS0.out hs1)
        clear hs1
        go_wp2_with fail
        go_ret
        exact ⟨rfl, SendR.no (by decide) HS1.out⟩
      · simp only [hlen, if_false]
        have g1 : ¬ (65536 : Int) < (bs.length : Int) := by omega
        by_cases hfull : 10000 ≤ ls.length
        · simp only [hfull, if_true]
          have HPF := Lib.hid (fun w' (hs : Same W w') f t A n c => put_full (h.same hs) f t (.slice A n c) ⟨_, _, _, rfl⟩ hfull)
          clear h hv hsh hth hs0 hx0 hT
          go_enter Try.func13, Try.ntmps13
          go_wp2_with fail
          refine HT.out.mono ?_
          rintro e w1 ⟨rfl, hs1⟩
          have HS1 := Lib.hid (Same.trans HS0.out hs1)
          clear hs1
          go_wp2_with fail
          refine (HPF.out _ HS1.out _ _ _ _ _).mono ?_
          rintro e w2 ⟨rfl, hs2⟩
          have HS2 := Lib.hid (Same.trans HS1.out hs2)
          clear hs2
          go_wp2_with fail
          go_ret
          exact ⟨rfl, SendR.no (by decide) HS2.out⟩
        · simp only [hfull, if_false, if_true]
          have HPO := Lib.hid (fun w' (hs : Same W w') => put_ok (h.same hs) (Nat.le_trans hb hs.size) f t _ bs (hv.same hs) (by omega) (by omega))
          clear h hv hsh hth hs0 hx0 hT
          go_enter Try.func13, Try.ntmps13
          go_wp2_with fail
          refine HT.out.mono ?_
          rintro e w1 ⟨rfl, hs1⟩
          have HS1 := Lib.hid (Same.trans HS0.out hs1)
          clear hs1
          go_wp2_with fail
          refine (HPO.out _ HS1.out).mono ?_
          rintro e w2 ⟨rfl, v', y, hm, hy⟩
          have HM := Lib.hid (And.intro (hm.from HS1.out) hy)
          clear hm hy
          go_wp2_with fail
          go_ret
          exact ⟨rfl, SendR.yes ⟨v', y, HM.out.1, HM.out.2⟩⟩
end
end Go.Proofs.Ytppphelihimidaa
