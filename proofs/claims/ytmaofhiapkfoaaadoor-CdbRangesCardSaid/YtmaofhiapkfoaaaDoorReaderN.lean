/- What field.Reader does. -/
import Derived.Test.YtmaofhiapkfoaaaDoorObjK
import Derived.Test.YtmaofhiapkfoaaaDoorFieldR
namespace Go.Proofs.YtmaofhiapkfoaaaDoor
open Go.RowKit
set_option linter.unusedVariables false
set_option linter.unusedSimpArgs false

theorem Fresh.shape' {base : Nat} {w : World} {v : Value} {xs : List UInt8} (h : Fresh base w v xs) : ∃ A cap, v = .slice A xs.length cap := by
  obtain ⟨A, n, cap, e, h1, _⟩ := h
  exact ⟨A, cap, by rw [e]; congr 1; simpa using h1.symm⟩
/-- v[lo:] of a row of the call's own. -/
theorem Fresh.drop {base : Nat} {w : World} {A : Option Addr} {n cap : Nat} {xs : List UInt8} (h : Fresh base w (.slice A n cap) xs) (lo : Nat) (hlo : lo ≤ n) :
    Fresh base w (.slice (if cap = lo then A else A.map (·.add lo)) (n - lo) (cap - lo)) (xs.drop lo) ∧ ∀ k, room (.slice (if cap = lo then A else A.map (·.add lo)) (n - lo) (cap - lo)) = some k → room (.slice A n cap) = some k := by
  obtain ⟨A', n', cap', e, h1, h2, h3, h4⟩ := h
  injection e with e1 e2 e3
  subst e1 e2 e3
  have hn : xs.length = n := by simpa using h1
  by_cases hc : cap = lo
  · refine ⟨⟨_, _, _, rfl, by simp; omega, by omega, by omega, .inl (by omega)⟩, fun k hk => ?_⟩
    cases A <;> simp [room, hc] at hk
  · rcases h4 with h4 | ⟨b, off, rfl, hb, hcs, hr⟩
    · omega
    · rw [if_neg hc]
      simp only [Option.map_some, Addr.add_lit]
      refine ⟨⟨_, _, _, rfl, by simp; omega, by omega, by omega, .inr ⟨b, off + lo, rfl, hb, ?_, ?_⟩⟩, fun k hk => ?_⟩
      · intro j u hj
        rw [List.map_drop, List.getElem?_drop] at hj
        rw [Nat.add_assoc]
        exact hcs _ u hj
      · intro j hj
        rw [Nat.add_assoc]
        exact hr _ (by omega)
      · rw [room_some _ _ _ _ (by omega)] at hk ⊢
        exact hk
/-- Behind some doings of a reader: what it is now; its own block alone was written. -/
def Rd (base : Nat) (w : World) (p : Nat) (v : Value) (w' : World) (bs' : List UInt8) (e' : Int) : Prop :=
  ∃ v', WObj base w' p v' bs' e' ∧ Upd (fun k => k = p) w w' ∧ ∀ k, room v' = some k → room v = some k
theorem Rd.grew {base : Nat} {w w' : World} {p : Nat} {v : Value} {bs : List UInt8} {e : Int} (h : Rd base w p v w' bs e) : Grew base w p v w' bs e := by
  obtain ⟨v', h1, h2, h3⟩ := h
  exact ⟨v', h1, h2.mono fun _ _ e => .inl e, fun k hk => .inl (h3 k hk)⟩
theorem Rd.refl {base : Nat} {w : World} {p : Nat} {v : Value} {bs : List UInt8} {e : Int} (h : WObj base w p v bs e) : Rd base w p v w bs e := ⟨v, h, Upd.refl _ w, fun k hk => hk⟩
theorem WObj.err {base : Nat} {w : World} {p : Nat} {v : Value} {bs : List UInt8} {e : Int} (h : WObj base w p v bs e) (e' : Int) : WObj base (w.setCell ⟨p, 1, none⟩ (.int .i64 e')) p v bs e' :=
  ⟨h.1, h.2.1.set1 e', h.2.2.1.upd ((Upd.refl (fun k => k = p) w).setCell (p := ⟨p, 1, none⟩) (fun _ => rfl) _) (fun k hk e => h.2.2.2 (by rw [hk, e])), h.2.2.2⟩
theorem Rd.err {base : Nat} {w : World} {p : Nat} {v : Value} {bs : List UInt8} {e : Int} (h : WObj base w p v bs e) (e' : Int) : Rd base w p v (w.setCell ⟨p, 1, none⟩ (.int .i64 e')) bs e' :=
  ⟨v, h.err e', (Upd.refl (fun k => k = p) w).setCell (p := ⟨p, 1, none⟩) (fun _ => rfl) _, fun k hk => hk⟩
/-- The object's row is a part of what it was. -/
theorem Rd.later {base : Nat} {w : World} {p : Nat} {v v' : Value} {bs bs' : List UInt8} {e : Int} (h : WObj base w p v bs e) (hf : Fresh base w v' bs')
    (hr : ∀ k, room v' = some k → room v = some k) : Rd base w p v (w.setCell ⟨p, 0, none⟩ v') bs' e := by
  have hp := h.2.1.lt
  have hne : ¬ room v' = some p := fun e => h.2.2.2 (hr p e)
  exact ⟨v', ⟨h.1, h.2.1.set0 v', hf.upd ((Upd.refl (fun k => k = p) w).setCell (p := ⟨p, 0, none⟩) (fun _ => rfl) _) (fun k hk e => hne (by rw [hk, e])), hne⟩,
    (Upd.refl (fun k => k = p) w).setCell (p := ⟨p, 0, none⟩) (fun _ => rfl) _, hr⟩
theorem Rd.trans {base : Nat} {w w1 w2 : World} {p : Nat} {v v1 : Value} {bs2 : List UInt8} {e2 : Int} (hu : Upd (fun k => k = p) w w1) (hr : ∀ k, room v1 = some k → room v = some k) (h2 : Rd base w1 p v1 w2 bs2 e2) : Rd base w p v w2 bs2 e2 := by
  obtain ⟨v2, h3, h4, h5⟩ := h2
  exact ⟨v2, h3, hu.trans h4 (fun k _ e => e), fun k hk => hr k (h5 k hk)⟩

def rnE (e size : Int) (len : Nat) : Int := if e ≠ 0 then e else if size < 1 ∨ 8 < size then 1 else if (len : Int) < size then 10 else 0
def rnL (bs : List UInt8) (e size : Int) : List UInt8 := if rnE e size bs.length = 0 then bs.drop size.toNat else bs
def rnN (bs : List UInt8) (e size : Int) : Int := if rnE e size bs.length = 0 then wrap64 (valB (bs.take size.toNat)) else 0
theorem rok_any {base : Nat} (p : Nat) (v : Value) (bs : List UInt8) (e : Int) (w : World) (h : WObj base w p v bs e) :
    Calls Tryd.prog 61 #[.pointer (some ⟨p, 0, none⟩)] w fun r w' => r = .returned (.bool (e == 0)) ∧ w = w' := by
  obtain ⟨c0, c1, c2, c3⟩ := h.2.1
  clear h
  go_enter Tryd.func61, Tryd.ntmps61
  go_wp2_with fail
  go_ret
  exact ⟨rfl, rfl⟩
set_option maxHeartbeats 2000000 in
/-- A number. -/
theorem rnum_any {base : Nat} (p : Nat) (v : Value) (bs : List UInt8) (e size : Int) (w : World) (h : WObj base w p v bs e) (hl : bs.length ≤ 140737488355328) (h3 : -9223372036854775808 ≤ size) (h4 : size ≤ 9223372036854775807) :
    Calls Tryd.prog 49 #[.pointer (some ⟨p, 0, none⟩), .int .i64 size] w fun r w' => r = .returned (.int .i64 (rnN bs e size)) ∧ Rd base w p v w' (rnL bs e size) (rnE e size bs.length) := by
  have hok := rok_any p v bs e w h
  obtain ⟨c0, c1, c2, c3⟩ := h.2.1
  by_cases he : e = 0
  · subst he
    rw [show ((0 : Int) == 0) = true from rfl] at hok
    have HK := Lib.hid hok
    by_cases hs : size < 1 ∨ 8 < size
    · have hE : rnE 0 size bs.length = 1 := by unfold rnE; rw [if_neg (by simp), if_pos hs]
      have hN : rnN bs 0 size = 0 := by unfold rnN; rw [hE, if_neg (by decide)]
      have hL : rnL bs 0 size = bs := by unfold rnL; rw [hE, if_neg (by decide)]
      rw [hE, hN, hL]
      have HG := Lib.hid (Rd.err h 1)
      clear hE hN hL h hok
      rcases hs with hs | hs
      all_goals
        go_enter Tryd.func49, Tryd.ntmps49
        go_wp2_with fail
        refine HK.out.mono ?_
        rintro r w' ⟨rfl, rfl⟩
        go_wp2_with fail
        go_ret
        exact ⟨rfl, HG.out⟩
    · have hg := get_bs v bs 0 size w h.2.2.1.bs (by decide) (by decide) h3 h4
      have hs1 : ¬ size < 1 := by omega
      have hs2 : ¬ 8 < size := by omega
      obtain ⟨A, cap, rfl⟩ := Fresh.shape' h.2.2.1
      by_cases hlen : (bs.length : Int) < size
      · have ht : thereB bs.length 0 size = false := by simp [thereB]; omega
        have hE : rnE 0 size bs.length = 10 := by unfold rnE; rw [if_neg (by simp), if_neg hs, if_pos hlen]
        have hN : rnN bs 0 size = 0 := by unfold rnN; rw [hE, if_neg (by decide)]
        have hL : rnL bs 0 size = bs := by unfold rnL; rw [hE, if_neg (by decide)]
        have hgE : getE bs.length 0 size = 1 := by unfold getE; rw [ht]; rfl
        rw [hE, hN, hL]
        rw [hgE] at hg
        generalize getN bs 0 size = GN at hg
        have HG := Lib.hid (Rd.err h 10)
        have HQ := Lib.hid hg
        clear hE hN hL h hok hg ht hgE hs
        go_enter Tryd.func49, Tryd.ntmps49
        go_wp2_with fail
        refine HK.out.mono ?_
        rintro r w' ⟨rfl, rfl⟩
        go_wp2_with fail
        refine HQ.out.mono ?_
        rintro r w' ⟨rfl, rfl⟩
        go_wp2_with fail
        go_ret
        exact ⟨rfl, HG.out⟩
      · have ht : thereB bs.length 0 size = true := by simp [thereB]; omega
        have hE : rnE 0 size bs.length = 0 := by unfold rnE; rw [if_neg (by simp), if_neg hs, if_neg hlen]
        have hN : rnN bs 0 size = wrap64 (valB (bs.take size.toNat)) := by unfold rnN; rw [hE, if_pos rfl]
        have hL : rnL bs 0 size = bs.drop size.toNat := by unfold rnL; rw [hE, if_pos rfl]
        have hgE : getE bs.length 0 size = 0 := by unfold getE; rw [ht]; rfl
        have hgN : getN bs 0 size = valB (bs.take size.toNat) := by unfold getN; rw [ht]; rfl
        rw [hE, hN, hL]
        rw [hgE, hgN] at hg
        obtain ⟨m, rfl⟩ : ∃ m : Nat, size = (m : Int) := ⟨size.toNat, by omega⟩
        rw [Int.toNat_natCast] at hg ⊢
        have hV := valB_range (bs.take m)
        have hV2 : valB (bs.take m) ≤ 18446744073709551615 := by
          have h5 : (bs.take m).length ≤ 8 := by simp; omega
          have h6 : 256 ^ (bs.take m).length ≤ 256 ^ 8 := Nat.pow_le_pow_right (by decide) h5
          have h7 : ((256 ^ (bs.take m).length : Nat) : Int) = (256 : Int) ^ (bs.take m).length := by rw [Int.natCast_pow]; rfl
          have h8 := hV.2
          omega
        have hV1 := hV.1
        generalize valB (bs.take m) = V at hg hV1 hV2
        obtain ⟨hf, hr⟩ := h.2.2.1.drop m (by omega)
        have hG := Rd.later h hf hr
        have hlm : m ≤ bs.length := by omega
        have HQ := Lib.hid hg
        have hu64 : IntKind.i64.wrap V = wrap64 V := by unfold wrap64; exact IntKind.wrap_i64 V
        clear hE hN hL hok hg ht hgE hgN hs hV hf hr
        have hm1 : 1 ≤ m ∧ m ≤ 8 := by omega
        have hlc := (Lentd.cap h.2.2.1).1
        obtain ⟨b, off, rfl⟩ := Fresh.addr h.2.2.1 (by omega)
        have hlm2 : ¬ bs.length < m := by omega
        by_cases hcm : cap = m
        · simp only [if_pos hcm] at hG
          rw [show bs.length - m = 0 by omega, show cap - m = 0 by omega] at hG
          have HG := Lib.hid hG
          clear hG h
          subst hcm
          go_enter Tryd.func49, Tryd.ntmps49
          go_wp2_with fail
          refine HK.out.mono ?_
          rintro r w' ⟨rfl, rfl⟩
          go_wp2_with fail
          refine HQ.out.mono ?_
          rintro r w' ⟨rfl, rfl⟩
          go_wp2_with fail
          go_ret
          exact ⟨rfl, HG.out⟩
        · simp only [if_neg hcm] at hG
          simp only [Option.map_some, Addr.add_lit] at hG
          have HG := Lib.hid hG
          clear hG h
          go_enter Tryd.func49, Tryd.ntmps49
          go_wp2_with fail
          refine HK.out.mono ?_
          rintro r w' ⟨rfl, rfl⟩
          go_wp2_with fail
          refine HQ.out.mono ?_
          rintro r w' ⟨rfl, rfl⟩
          go_wp2_with fail
          go_ret
          exact ⟨rfl, HG.out⟩
  · have hE : rnE e size bs.length = e := by unfold rnE; rw [if_pos he]
    have hN : rnN bs e size = 0 := by unfold rnN; rw [hE, if_neg he]
    have hL : rnL bs e size = bs := by unfold rnL; rw [hE, if_neg he]
    rw [hE, hN, hL]
    rw [show (e == 0) = false by simpa using he] at hok
    have HK := Lib.hid hok
    have HG := Lib.hid (Rd.refl h)
    clear hE hN hL h hok
    go_enter Tryd.func49, Tryd.ntmps49
    go_wp2_with fail
    refine HK.out.mono ?_
    rintro r w' ⟨rfl, rfl⟩
    go_wp2_with fail
    go_ret
    exact ⟨rfl, HG.out⟩
end Go.Proofs.YtmaofhiapkfoaaaDoor
