/- The world as an abstract object: what each call answers, and what it leaves. -/
import Derived.Test.YtppphelihimidaaWorX
namespace Go.Proofs.Ytppphelihimidaa
open Go.RowKit
set_option linter.unusedVariables false
set_option linter.unusedSimpArgs false
open Classical
/-- A world. -/
structure Wd where
  rho : Int
  mask : Int
  tk : Int
  lo : Int
  dn : Int
  sh : Bool
  ms : List Msg
  cs : List Int
def Wd.of (s : WrS) (ms : List Msg) (cs : List Int) : Wd := ⟨s.rho, s.mask, s.tk, s.lo, s.dn, s.sh, ms, cs⟩
/-- It lies in the blocks of F. -/
def WoO (base : Nat) (F : Nat → Prop) (W : World) (p : Nat) (d : Wd) : Prop := ∃ D s ls, WoV base D W p s ls d.cs ∧ Wd.of s (ls.map Lt.msg) d.cs = d ∧ (∀ k, wfoot D p s k → F k) ∧ Foot base F W
def WGrew (base : Nat) (F : Nat → Prop) (W : World) (p : Nat) (W' : World) (d : Wd) : Prop := ∃ F', WoO base F' W' p d ∧ Step F F' W W'
/-- Its numbers are in their bounds. -/
def Wd.Ok (d : Wd) (m : Int) : Prop := CkOk d.cs d.rho ∧ Near d.cs d.rho ∧ (0 ≤ d.mask ∧ d.mask < 32) ∧ (0 ≤ d.tk ∧ d.tk ≤ m) ∧ (0 ≤ d.lo ∧ d.lo ≤ m) ∧ d.ms.length ≤ 10000 ∧ m ≤ 1000000
section
variable {base : Nat} {F : Nat → Prop} {W W' : World} {p : Nat} {d : Wd}
theorem WoO.upd {S : Nat → Prop} (h : WoO base F W p d) (hu : Upd S W W') (hn : ∀ k, F k → ¬ S k) : WoO base F W' p d := by
  obtain ⟨D, s, ls, h1, h2, h3, h4⟩ := h
  exact ⟨D, s, ls, h1.upd hu fun k hk => hn k (h3 k hk), h2, h3, h4.mono hu.size⟩
theorem WoO.same (h : WoO base F W p d) (hs : Same W W') : WoO base F W' p d := h.upd hs fun _ _ h => h
theorem WoO.foot (h : WoO base F W p d) : Foot base F W := by obtain ⟨D, s, ls, h1, h2, h3, h4⟩ := h; exact h4
theorem WGrew.same (h : WoO base F W p d) (hs : Same W W') : WGrew base F W p W' d := ⟨F, h.same hs, Step.same hs⟩
theorem WGrew.mk {D D' : Nat → Prop} {s s' : WrS} {ls' : List Lt} {cs' : List Int} (hF : ∀ k, wfoot D p s k → F k) (h : WoV base D' W' p s' ls' cs') (h2 : ∀ k, wfoot D' p s' k → wfoot D p s k ∨ W.heap.size ≤ k) (hu : Upd (wfoot D p s) W W') :
    WGrew base F W p W' (Wd.of s' (ls'.map Lt.msg) cs') :=
  ⟨wfoot D' p s', ⟨D', s', ls', h, rfl, fun _ h => h, h.foot⟩, hu.mono fun k _ hk => hF k hk, fun k hk => (h2 k hk).imp (hF k) id⟩
/-- Send. -/
def Wd.send (d : Wd) (f t : Int) (bs : List UInt8) : Int × Wd :=
  (sendCode d.sh d.cs.length f t bs.length d.ms.length, if sendCode d.sh d.cs.length f t bs.length d.ms.length = 0 then { d with ms := d.ms ++ [(f, t, bs)] } else d)
theorem send_o (h : WoO base F W p d) {m : Int} (hok : d.Ok m) (hb : base ≤ W.heap.size) (f t : Int) (v : Value) (bs : List UInt8) (hv : Bs W v bs) (hbl : bs.length ≤ 200000000000000) :
    Calls Try.prog 13 #[.pointer (some ⟨p, 0, none⟩), .int .i64 f, .int .i64 t, v] W fun e w' => e = .returned (.int .i64 (d.send f t bs).1) ∧ WGrew base F W p w' (d.send f t bs).2 := by
  obtain ⟨D, s, ls, h1, h2, h3, h4⟩ := id h
  have e1 : ls.length = d.ms.length := by rw [← h2]; simp [Wd.of]
  have e2 : s.sh = d.sh := by rw [← h2]; rfl
  refine (send_any h1 hb f t v bs hv hbl (by have := hok.2.2.2.2.2.1; omega)).mono ?_
  rintro e w' ⟨rfl, hr⟩
  rw [e1, e2] at hr
  rw [e1, e2]
  refine ⟨rfl, ?_⟩
  unfold Wd.send
  dsimp only
  unfold SendR at hr
  split at hr
  · rename_i hc
    rw [if_pos hc]
    obtain ⟨v', x, ⟨D', a1, a2, a3⟩, hx⟩ := hr
    have := WGrew.mk h3 a1 a2 a3
    rw [List.map_append, List.map_cons, List.map_nil, hx] at this
    have e : Wd.of { s with vl := v' } (ls.map Lt.msg ++ [(f, t, bs)]) d.cs = { d with ms := d.ms ++ [(f, t, bs)] } := by
      rw [← h2]; rfl
    rw [← e]
    exact this
  · rename_i hc
    rw [if_neg hc]
    exact WGrew.same h hr
theorem Wd.Ok.send {m : Int} (h : d.Ok m) (f t : Int) (bs : List UInt8) : (d.send f t bs).2.Ok m := by
  unfold Wd.send
  dsimp only
  split
  · rename_i hc
    obtain ⟨h1, h2, h3, h4, h5, h6, h7⟩ := h
    refine ⟨h1, h2, h3, h4, h5, ?_, h7⟩
    simp only [List.length_append, List.length_cons, List.length_nil]
    unfold sendCode at hc
    split at hc
    · cases hc
    · split at hc
      · cases hc
      · split at hc
        · cases hc
        · split at hc
          · cases hc
          · omega
  · exact h
/-- Is there a letter number k? -/
def Wd.has (d : Wd) (k : Int) : Prop := 0 ≤ k ∧ k < d.ms.length
/-- The k-th letter. -/
def Wd.at_ (d : Wd) (k : Int) : Msg := d.ms.getD k.toNat (0, 0, [])
def Wd.away (d : Wd) (k : Int) : List Msg := d.ms.take k.toNat ++ d.ms.drop (k.toNat + 1)
theorem msg_at {ls : List Lt} {ms : List Msg} (h : ls.map Lt.msg = ms) (k : Nat) (hk : k < ls.length) : (ls[k]'hk).msg = ms.getD k (0, 0, []) := by
  subst h
  rw [List.getD_eq_getElem?_getD, List.getElem?_map, List.getElem?_eq_getElem hk]
  rfl
/-- A letter is looked at. -/
def LookR (W : World) (m : Msg) (c : Int) (e : Ending) (w' : World) : Prop := ∃ v', e = .returned (letV m.1 m.2.1 v' c) ∧ Fresh W.heap.size w' v' m.2.2
theorem look_o (h : WoO base F W p d) {m : Int} (hok : d.Ok m) (k : Int) :
    Calls Try.prog 17 #[.pointer (some ⟨p, 0, none⟩), .int .i64 k] W fun e w' => (if d.has k then LookR W (d.at_ k) 0 e w' else e = .returned (noLet 1)) ∧ Same W w' := by
  obtain ⟨D, s, ls, h1, h2, h3, h4⟩ := id h
  have e1 : ls.map Lt.msg = d.ms := by rw [← h2]; rfl
  have e2 : ls.length = d.ms.length := by rw [← e1]; simp
  by_cases hk : d.has k
  · obtain ⟨j, rfl⟩ : ∃ j : Nat, k = j := ⟨k.toNat, by have := hk.1; omega⟩
    have hj : j < ls.length := by have := hk.2; omega
    refine (look_ok h1 j hj (by have := hok.2.2.2.2.2.1; omega)).mono ?_
    rintro e w' ⟨v', rfl, hf, hs⟩
    rw [if_pos hk]
    have hm : d.at_ (j : Int) = (ls[j]'hj).msg := by unfold Wd.at_; rw [msg_at e1 j hj]; simp
    exact ⟨⟨v', by rw [hm]; rfl, by rw [hm]; exact hf⟩, hs⟩
  · refine (look_out h1 k (by unfold Wd.has at hk; omega)).mono ?_
    rintro e w' ⟨rfl, hs⟩
    rw [if_neg hk]
    exact ⟨rfl, hs⟩
end
end Go.Proofs.Ytppphelihimidaa
