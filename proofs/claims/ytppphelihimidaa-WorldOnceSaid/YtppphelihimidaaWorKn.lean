/- The world: what it tells; the law's known. -/
import Derived.Test.YtppphelihimidaaWorZ
namespace Go.Proofs.Ytppphelihimidaa
open Go.RowKit
set_option linter.unusedVariables false
set_option linter.unusedSimpArgs false
attribute [local go_sem ↓] Go.wp_at_zero Go.wp_at_succ
section
variable {base : Nat} {F : Nat → Prop} {W W' : World} {p : Nat} {d : Wd}
theorem wlost_o (h : WoO base F W p d) : Calls Try.prog 27 #[.pointer (some ⟨p, 0, none⟩)] W fun e w' => e = .returned (.int .i64 d.lo) ∧ w' = W := by
  obtain ⟨D, s, ls, h1, h2, h3, h4⟩ := h
  have e5 : s.lo = d.lo := by rw [← h2]; rfl
  rw [← e5]
  exact lost_any h1.2.1
theorem wtaken_o (h : WoO base F W p d) : Calls Try.prog 26 #[.pointer (some ⟨p, 0, none⟩)] W fun e w' => e = .returned (.int .i64 d.tk) ∧ w' = W := by
  obtain ⟨D, s, ls, h1, h2, h3, h4⟩ := h
  have e5 : s.tk = d.tk := by rw [← h2]; rfl
  rw [← e5]
  exact taken_any h1.2.1
theorem wlen_o (h : WoO base F W p d) : Calls Try.prog 25 #[.pointer (some ⟨p, 0, none⟩)] W fun e w' => e = .returned (.int .i64 d.ms.length) ∧ w' = W := by
  obtain ⟨D, s, ls, h1, h2, h3, h4⟩ := h
  have e5 : ls.length = d.ms.length := by rw [← h2]; simp [Wd.of]
  rw [← e5]
  exact wlen_any h1
/-- A machine's clock; none: 0. -/
def Wd.clock (d : Wd) (i : Int) : Int := if i < 0 ∨ (d.cs.length : Int) ≤ i then 0 else d.cs.getD i.toNat 0
theorem wclock_o (h : WoO base F W p d) {m : Int} (hok : d.Ok m) (i : Int) : Calls Try.prog 9 #[.pointer (some ⟨p, 0, none⟩), .int .i64 i] W fun e w' => e = .returned (.int .i64 (d.clock i)) ∧ Same W w' := by
  obtain ⟨D, s, ls, h1, h2, h3, h4⟩ := h
  unfold Wd.clock
  by_cases hi : i < 0 ∨ (d.cs.length : Int) ≤ i
  · rw [if_pos hi]
    exact clock_no h1.2.1 h1.2.2.2.1.rdr i hi
  · rw [if_neg hi]
    obtain ⟨k, rfl⟩ : ∃ k : Nat, i = k := ⟨i.toNat, by omega⟩
    exact clock_yes h1.2.1 h1.2.2.2.1.rdr k (by omega) (by have := hok.1.2.2.2.1; omega)
theorem wmay_o (h : WoO base F W p d) {m : Int} (hok : d.Ok m) (i : Int) : Calls Try.prog 11 #[.pointer (some ⟨p, 0, none⟩), .int .i64 i] W fun e w' => Says (MayI d.cs d.rho i) e ∧ Same W w' := by
  obtain ⟨D, s, ls, h1, h2, h3, h4⟩ := h
  have e3 : s.rho = d.rho := by rw [← h2]; rfl
  have hck : CkOk d.cs s.rho := by rw [e3]; exact hok.1
  have := may_any h1.2.1 h1.2.2.2.1.rdr hck i
  rw [e3] at this
  exact this
theorem wapart_o (h : WoO base F W p d) {m : Int} (hok : d.Ok m) (a b : Int) : Calls Try.prog 15 #[.pointer (some ⟨p, 0, none⟩), .int .i64 a, .int .i64 b] W fun e w' => e = .returned (.bool (apartB d.mask d.cs.length a b)) ∧ Same W w' := by
  obtain ⟨D, s, ls, h1, h2, h3, h4⟩ := h
  have e3 : s.mask = d.mask := by rw [← h2]; rfl
  have := apart_any h1.2.1 h1.2.2.2.1.rdr a b hok.1.2.2.2.1 (by rw [e3]; exact hok.2.2.1)
  rw [e3] at this
  exact this
theorem WGrew.go {w0 : World} {d' : Wd} (g : WGrew w0.heap.size F W p W' d') (ho : WoO w0.heap.size F W p d) (hs : Same w0 W) : ∃ F', WoO w0.heap.size F' W' p d' ∧ Same w0 W' := by
  obtain ⟨F', h1, h2⟩ := g
  exact ⟨F', h1, h2.keeps hs ho.foot⟩
end
/-- A world of the call's own. -/
def WoS (w0 W : World) (p : Nat) (d : Wd) : Prop := ∃ F, WoO w0.heap.size F W p d ∧ Same w0 W
section
variable {w0 W W' : World} {p : Nat} {d : Wd}
theorem WoS.same (h : WoS w0 W p d) (hs : Same W W') : WoS w0 W' p d := by
  obtain ⟨F, h1, h2⟩ := h
  exact ⟨F, h1.same hs, Same.trans h2 hs⟩
theorem WoS.base (h : WoS w0 W p d) : w0.heap.size ≤ W.heap.size := by
  obtain ⟨F, h1, h2⟩ := h
  exact h2.size
theorem WoS.lt (h : WoS w0 W p d) : p < W.heap.size := by
  obtain ⟨F, ⟨D, s, ls, h1, -⟩, h2⟩ := h
  exact h1.2.1.lt
def newD (n rho : Nat) : Wd := ⟨rho, 0, 0, 0, 0, false, [], List.replicate n 0⟩
theorem newD_ok {n rho : Nat} (h1 : 1 ≤ n) (h2 : n ≤ 5) (h3 : 1 ≤ rho) (h4 : rho ≤ 1000) : (newD n rho).Ok 0 :=
  ⟨CkOk.zero n rho (by omega) (by omega) h1 h2, Near.zero n rho (by omega), by simp [newD], by simp [newD], by simp [newD], by simp [newD], by decide⟩
theorem WoO.new {n rho : Nat} {e : Ending} (hw : NewR w0 n rho e W) (hn : 1 ≤ n) {base : Nat} (hb : base ≤ w0.heap.size) : WoO base (fun k => k = w0.heap.size ∨ k = w0.heap.size + 1) W (w0.heap.size + 1) (newD n rho) := by
  obtain ⟨-, q1, q2, q3⟩ := hw
  have hr : room (.slice (some ⟨w0.heap.size, 0, none⟩) n n) = some w0.heap.size := room_some _ _ _ _ (by omega)
  have hlt := q1.lt
  refine ⟨fun _ => False, _, [], ⟨by omega, q1, Own.nil _ _ _, q2.mono hb, by simp, fun k hk => hk.elim, fun e => by simp [room] at e, fun e => by rw [hr] at e; injection e with e; omega, fun k e => by simp [room] at e, fun k hk => hk.elim⟩, rfl, ?_, fun k hk => ?_⟩
  · rintro k (hk | hk | hk | hk)
    · exact .inr hk
    · simp [room] at hk
    · have hk' : room (.slice (some ⟨w0.heap.size, 0, none⟩) n n) = some k := hk
      rw [hr] at hk'; injection hk' with hk'; exact .inl hk'.symm
    · exact hk.elim
  · rcases hk with rfl | rfl <;> omega
end
/-- The world of known, behind k ticks. -/
def kD (k : Int) : Wd := ⟨3, 0, 0, 0, 0, false, [], [k, 0]⟩
theorem kD_ok (k : Int) (h0 : 0 ≤ k) (h3 : k ≤ 3) : (kD k).Ok 0 := by
  refine ⟨⟨(by simp [kD]), (by simp [kD]), (by simp [kD]), (by simp [kD]), fun j => ?_⟩, fun a b ha hb => ?_, (by simp [kD]), (by simp [kD]), (by simp [kD]), (by simp [kD]), (by decide)⟩
  · show 0 ≤ ([k, 0] : List Int).getD j 0 ∧ ([k, 0] : List Int).getD j 0 ≤ 1099511627776
    match j with
    | 0 => simp; omega
    | 1 => simp
    | n + 2 => simp
  · have ha' : a < 2 := ha
    have hb' : b < 2 := hb
    show ([k, 0] : List Int).getD a 0 - ([k, 0] : List Int).getD b 0 ≤ 3
    match a, b, ha', hb' with
    | 0, 0, _, _ => simp
    | 0, 1, _, _ => simp; omega
    | 1, 0, _, _ => simp; omega
    | 1, 1, _, _ => simp
theorem kMay (k : Int) (h0 : 0 ≤ k) (h3 : k ≤ 3) : MayI (kD k).cs (kD k).rho 0 ↔ k < 3 := by
  unfold MayI MayOk kD
  simp
  constructor
  · rintro ⟨_, h⟩
    have := h 1 (by decide) (by decide)
    simp at this
    omega
  · intro h
    refine ⟨by omega, fun j hj hj0 => ?_⟩
    obtain rfl : j = 1 := by omega
    simp
    omega
theorem kTick (k : Int) (h0 : 0 ≤ k) (h3 : k < 3) : (kD k).tick 0 = (0, kD (k + 1)) := by
  unfold Wd.tick
  rw [if_neg (show ¬ ((0 : Int) < 0 ∨ ((kD k).cs.length : Int) ≤ 0) by simp [kD]), if_pos ((kMay k h0 (by omega)).2 h3)]
  rfl
theorem kTick3 : (kD 3).tick 0 = (5, kD 3) := by
  unfold Wd.tick
  rw [if_neg (show ¬ ((0 : Int) < 0 ∨ ((kD 3).cs.length : Int) ≤ 0) by simp [kD]), if_neg (fun h => by have := (kMay 3 (by decide) (by decide)).1 h; omega)]
def kD2 : Wd := { kD 3 with mask := 1 }
theorem kCut : (kD 3).cut 1 = (0, kD2) := by
  unfold Wd.cut
  rw [if_pos (by decide)]
  rfl
def kD3 : Wd := { kD2 with ms := [(0, 1, [97])] }
theorem kSend : kD2.send 0 1 [97] = (0, kD3) := by
  unfold Wd.send
  have : sendCode kD2.sh kD2.cs.length 0 1 [(97 : UInt8)].length kD2.ms.length = 0 := by decide
  rw [this]
  rfl
def kD4 : Wd := { kD3 with ms := [], lo := 1 }
theorem kHas : kD3.has 0 := ⟨by decide, by decide⟩
theorem kFar : kD3.far 0 = true := by decide
theorem kTake : kD3.take 0 = kD4 := by
  unfold Wd.take
  rw [if_pos kHas, if_pos kFar]
  rfl
set_option maxRecDepth 100000 in
set_option maxHeartbeats 2000000 in
theorem known_any (w : World) : Calls Try.prog 12 #[] w fun r w' => r = .returned (.bool true) ∧ Same w w' := by
  have kc := fun (w : World) (C : Array Value) (n c : Nat) => Lib.run_convert_bytes_const (P := Try.prog) w 35 5 C n c Try.underlying35 Try.underlying5
  have HNW := Lib.hid (wnew_any 2 3 (by decide) (by decide) (by decide) (by decide) w)
  go_enter Try.func12, Try.ntmps12
  go_wp2_with fail
  refine HNW.out.mono ?_
  rintro e w1 hnew
  obtain rfl := hnew.1
  have H0 : Hid (WoS w w1 (w.heap.size + 1) (kD 0)) := Lib.hid ⟨_, WoO.new hnew (by decide) (Nat.le_refl _), hnew.2.2.2⟩
  clear hnew HNW
  generalize w.heap.size + 1 = p at H0 ⊢
  go_wp2_with fail
  go_loopw [3] (fun v3 wr => ∃ k : Nat, k ≤ 3 ∧ v3 = .int .i64 k ∧ Hid (WoS w wr p (kD k))) (fun v3 _ => 3 - (intOf v3).toNat)
  case atStart => exact ⟨0, by omega, rfl, H0.out⟩
  case round =>
    obtain ⟨k, hk, rfl, hd⟩ := hrel
    by_cases hlt : k < 3
    · have g1 : (k : Int) < 3 := by omega
      obtain ⟨F, ho, hs⟩ := hd.out
      have hti := wtick_o ho (kD_ok k (by omega) (by omega)) 0
      rw [kTick k (by omega) (by omega)] at hti
      have HTI := Lib.hid hti
      have HO := Lib.hid (And.intro ho hs)
      clear hti ho hs hd
      go_wp2_with fail
      refine HTI.out.mono ?_
      rintro e w2 ⟨rfl, hg⟩
      have HG : Hid (WoS w w2 p (kD ((k + 1 : Nat) : Int))) := Lib.hid (hg.go HO.out.1 HO.out.2)
      clear hg
      go_wp2_with fail
      go_roundw
      case rel => exact ⟨k + 1, by omega, by go_num, HG.out⟩
      case measure => simp [intOf]; omega
    · obtain rfl : k = 3 := by omega
      obtain ⟨F, ho, hs⟩ := hd.out
      have hti := wtick_o ho (kD_ok (3 : Nat) (by decide) (by decide)) 0
      rw [show ((3 : Nat) : Int) = 3 from rfl, kTick3] at hti
      have HTI := Lib.hid hti
      have HO := Lib.hid (And.intro ho hs)
      clear hti ho hs hd H0
      go_wp2_with fail
      refine HTI.out.mono ?_
      rintro e w2 ⟨rfl, hg⟩
      obtain ⟨F2, ho2, hs2⟩ := hg.go HO.out.1 HO.out.2
      have hcu := wcut_o ho2 (kD_ok 3 (by decide) (by decide)) 1
      rw [kCut] at hcu
      have HCU := Lib.hid hcu
      have HO2 := Lib.hid (And.intro ho2 hs2)
      clear hcu ho2 hs2 hg HO
      go_wp2_with fail
      refine HCU.out.mono ?_
      rintro e w3 ⟨rfl, hg⟩
      have hok2 : kD2.Ok 0 := by have := (kD_ok 3 (by decide) (by decide)).cut 1; rw [kCut] at this; exact this
      obtain ⟨F3, ho3, hs3⟩ := hg.go HO2.out.1 HO2.out.2
      have HO3 := Lib.hid (And.intro ho3 hs3)
      clear ho3 hs3 hg HO2
      go_wp2_with fail
      have hal := (Upd.refl (fun _ => False) w3).alloc (.cells #[.int .u8 97] 5 (1, 2))
      have hse := send_o (HO3.out.1.same hal) hok2 (Nat.le_trans HO3.out.2.size hal.size) 0 1 (.slice (some ⟨w3.heap.size, 0, none⟩) 1 1) [97] (Bs.lit w3 _ _ _ _ _ _ _ rfl (fun j hj => by
        have hj : j < 1 := hj
        match j, hj with
        | 0, _ => rfl) rfl (by decide) (by decide)) (by decide)
      rw [kSend] at hse
      refine hse.mono ?_
      rintro e w4 ⟨rfl, hg⟩
      have hok3 : kD3.Ok 0 := by have := hok2.send 0 1 [97]; rw [kSend] at this; exact this
      obtain ⟨F4, ho4, hs4⟩ := hg.go (HO3.out.1.same hal) (Same.trans HO3.out.2 hal)
      have hta := wtake_o ho4 hok3 hs4.size 0
      rw [kTake] at hta
      have HTA := Lib.hid hta
      have HO4 := Lib.hid (And.intro ho4 hs4)
      clear ho4 hs4 hg HO3 hta hse hal hok2 HCU HTI
      go_wp2_with fail
      refine HTA.out.mono ?_
      rintro e w5 ⟨htr, hg⟩
      unfold TakeR at htr
      rw [if_pos kHas, if_pos kFar] at htr
      subst htr
      unfold noLet letV
      obtain ⟨F5, ho5, hs5⟩ := hg.go HO4.out.1 HO4.out.2
      have hok4 : kD4.Ok 1 := by have := hok3.take (by decide) 0; rw [kTake] at this; exact this
      have hal := (Upd.refl (fun _ => False) w5).alloc (.cells #[.int .i64 0, .int .i64 0, .slice none 0 0] 40)
      have HLO := Lib.hid (wlost_o (ho5.same hal))
      have HTK := Lib.hid (wtaken_o (ho5.same hal))
      have HCK := Lib.hid (wclock_o (ho5.same hal) hok4 0)
      rw [show kD4.lo = 1 from rfl] at HLO
      rw [show kD4.tk = 0 from rfl] at HTK
      rw [show kD4.clock 0 = 3 by decide] at HCK
      have HS5 := Lib.hid (Same.trans hs5 hal)
      clear ho5 hs5 hg HO4 hal hok3 hok4 HTA
      go_wp2_with fail
      refine HLO.out.mono ?_
      rintro e w6 ⟨rfl, rfl⟩
      go_wp2_with fail
      refine HTK.out.mono ?_
      rintro e w6 ⟨rfl, rfl⟩
      go_wp2_with fail
      refine HCK.out.mono ?_
      rintro e w7 ⟨rfl, hs7⟩
      have HS7 := Lib.hid hs7
      clear hs7
      go_wp2_with fail
      go_ret
      exact ⟨rfl, Same.trans HS5.out HS7.out⟩
end Go.Proofs.Ytppphelihimidaa
