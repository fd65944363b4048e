/- The world as an abstract object: Take, Drop, Double, Cut, Tick. -/
import Derived.Test.YtppphelihimidaaWorY
namespace Go.Proofs.Ytppphelihimidaa
open Go.RowKit
set_option linter.unusedVariables false
set_option linter.unusedSimpArgs false
open Classical
section
variable {base : Nat} {F : Nat → Prop} {W W' : World} {p : Nat} {d : Wd}
theorem WGrew.gone {D : Nat → Prop} {s : WrS} {ls' : List Lt} {cs : List Int} {tk lo : Int} (hF : ∀ k, wfoot D p s k → F k) (h : GoneR base D W p s ls' cs tk lo W') :
    WGrew base F W p W' { Wd.of s (ls'.map Lt.msg) cs with tk := tk, lo := lo } := by
  obtain ⟨vl', h1, h2, h3⟩ := h
  exact WGrew.mk hF h1 (fun k hk => .inl (foot_vl h2 k hk)) h3
/-- Do the sender and the taker of the k-th letter stand apart? -/
def Wd.far (d : Wd) (k : Int) : Bool := apartB d.mask d.cs.length (d.at_ k).1 (d.at_ k).2.1
noncomputable def Wd.take (d : Wd) (k : Int) : Wd := if d.has k then (if d.far k = true then { d with ms := d.away k, lo := d.lo + 1 } else { d with ms := d.away k, tk := d.tk + 1 }) else d
noncomputable def Wd.drop (d : Wd) (k : Int) : Int × Wd := if d.has k then (0, { d with ms := d.away k, lo := d.lo + 1 }) else (1, d)
noncomputable def Wd.double (d : Wd) (k : Int) : Int × Wd := if d.has k then (if 10000 ≤ d.ms.length then (4, d) else (0, { d with ms := d.ms ++ [d.at_ k] })) else (1, d)
noncomputable def Wd.cut (d : Wd) (m : Int) : Int × Wd := if 0 ≤ m ∧ m / 2 ^ d.cs.length = 0 then (0, { d with mask := m }) else (1, d)
noncomputable def Wd.tick (d : Wd) (i : Int) : Int × Wd := if i < 0 ∨ (d.cs.length : Int) ≤ i then (1, d) else if MayI d.cs d.rho i then (0, { d with cs := d.cs.set i.toNat (d.cs.getD i.toNat 0 + 1) }) else (5, d)
/-- What Take tells. -/
def TakeR (W : World) (d : Wd) (k : Int) (e : Ending) (w' : World) : Prop := if d.has k then (if d.far k = true then e = .returned (noLet 5) else LookR W (d.at_ k) 0 e w') else e = .returned (noLet 1)
theorem away_map {ls : List Lt} {ms : List Msg} (h : ls.map Lt.msg = ms) (k : Nat) : (ls.take k ++ ls.drop (k + 1)).map Lt.msg = ms.take k ++ ms.drop (k + 1) := by
  subst h
  simp [List.map_take, List.map_drop]
theorem wtake_o (h : WoO base F W p d) {m : Int} (hok : d.Ok m) (hb : base ≤ W.heap.size) (k : Int) :
    Calls Try.prog 14 #[.pointer (some ⟨p, 0, none⟩), .int .i64 k] W fun e w' => TakeR W d k e w' ∧ WGrew base F W p w' (d.take k) := by
  obtain ⟨D, s, ls, h1, h2, h3, h4⟩ := id h
  have e1 : ls.map Lt.msg = d.ms := by rw [← h2]; rfl
  have e2 : ls.length = d.ms.length := by rw [← e1]; simp
  have e3 : s.mask = d.mask := by rw [← h2]; rfl
  have e4 : s.tk = d.tk := by rw [← h2]; rfl
  have e5 : s.lo = d.lo := by rw [← h2]; rfl
  obtain ⟨o1, o2, o3, o4, o5, o6, o7⟩ := hok
  unfold TakeR Wd.take
  by_cases hk : d.has k
  · obtain ⟨j, rfl⟩ : ∃ j : Nat, k = j := ⟨k.toNat, by have := hk.1; omega⟩
    have hj : j < ls.length := by have := hk.2; omega
    have hm : d.at_ (j : Int) = (ls[j]'hj).msg := by unfold Wd.at_; rw [msg_at e1 j hj]; simp
    have hfa : d.far (j : Int) = apartB s.mask d.cs.length (ls[j]'hj).f (ls[j]'hj).t := by unfold Wd.far; rw [hm, e3]; rfl
    have haw : d.away (j : Int) = (ls.take j ++ ls.drop (j + 1)).map Lt.msg := by rw [away_map e1]; rfl
    simp only [if_pos hk]
    cases hfr : d.far (j : Int) with
    | true =>
      rw [hfr] at hfa
      refine (take_apart h1 hb j hj (by omega) o1.2.2.2.1 (by rw [e3]; exact o3) (by rw [e5]; omega) hfa.symm).mono ?_
      rintro e w' ⟨rfl, hg⟩
      simp only [if_true]
      refine ⟨trivial, ?_⟩
      have := WGrew.gone h3 hg
      rw [haw]
      have e : ({ Wd.of s ((ls.take j ++ ls.drop (j + 1)).map Lt.msg) d.cs with tk := s.tk, lo := s.lo + 1 } : Wd) = { d with ms := (ls.take j ++ ls.drop (j + 1)).map Lt.msg, lo := d.lo + 1 } := by
        rw [e5, e4, ← h2]; rfl
      rw [← e]
      exact this
    | false =>
      rw [hfr] at hfa
      refine (take_ok h1 hb j hj (by omega) o1.2.2.2.1 (by rw [e3]; exact o3) (by rw [e4]; omega) hfa.symm).mono ?_
      rintro e w' ⟨v', rfl, hf, hg⟩
      simp only [Bool.false_eq_true, if_false]
      refine ⟨⟨v', by rw [hm]; rfl, by rw [hm]; exact hf⟩, ?_⟩
      have := WGrew.gone h3 hg
      rw [haw]
      have e : ({ Wd.of s ((ls.take j ++ ls.drop (j + 1)).map Lt.msg) d.cs with tk := s.tk + 1, lo := s.lo } : Wd) = { d with ms := (ls.take j ++ ls.drop (j + 1)).map Lt.msg, tk := d.tk + 1 } := by
        rw [e5, e4, ← h2]; rfl
      rw [← e]
      exact this
  · refine (take_err _ k 1 (by decide) W fun w' hs => look_out (h1.same hs) k (by unfold Wd.has at hk; omega)).mono ?_
    rintro e w' ⟨rfl, hs⟩
    simp only [if_neg hk]
    exact ⟨trivial, WGrew.same h hs⟩
theorem wdrop_o (h : WoO base F W p d) {m : Int} (hok : d.Ok m) (hb : base ≤ W.heap.size) (k : Int) :
    Calls Try.prog 16 #[.pointer (some ⟨p, 0, none⟩), .int .i64 k] W fun e w' => e = .returned (.int .i64 (d.drop k).1) ∧ WGrew base F W p w' (d.drop k).2 := by
  obtain ⟨D, s, ls, h1, h2, h3, h4⟩ := id h
  have e1 : ls.map Lt.msg = d.ms := by rw [← h2]; rfl
  have e2 : ls.length = d.ms.length := by rw [← e1]; simp
  have e4 : s.tk = d.tk := by rw [← h2]; rfl
  have e5 : s.lo = d.lo := by rw [← h2]; rfl
  obtain ⟨o1, o2, o3, o4, o5, o6, o7⟩ := hok
  unfold Wd.drop
  by_cases hk : d.has k
  · obtain ⟨j, rfl⟩ : ∃ j : Nat, k = j := ⟨k.toNat, by have := hk.1; omega⟩
    have hj : j < ls.length := by have := hk.2; omega
    have haw : d.away (j : Int) = (ls.take j ++ ls.drop (j + 1)).map Lt.msg := by rw [away_map e1]; rfl
    simp only [if_pos hk]
    refine (drop_ok h1 hb j hj (by omega) (by rw [e5]; omega)).mono ?_
    rintro e w' ⟨rfl, hg⟩
    refine ⟨rfl, ?_⟩
    have := WGrew.gone h3 hg
    rw [haw]
    have e : ({ Wd.of s ((ls.take j ++ ls.drop (j + 1)).map Lt.msg) d.cs with tk := s.tk, lo := s.lo + 1 } : Wd) = { d with ms := (ls.take j ++ ls.drop (j + 1)).map Lt.msg, lo := d.lo + 1 } := by
      rw [e5, e4, ← h2]; rfl
    rw [← e]
    exact this
  · simp only [if_neg hk]
    refine (drop_err _ k 1 (by decide) W fun w' hs => look_out (h1.same hs) k (by unfold Wd.has at hk; omega)).mono ?_
    rintro e w' ⟨rfl, hs⟩
    exact ⟨rfl, WGrew.same h hs⟩
theorem wdouble_o (h : WoO base F W p d) {m : Int} (hok : d.Ok m) (hb : base ≤ W.heap.size) (k : Int) :
    Calls Try.prog 18 #[.pointer (some ⟨p, 0, none⟩), .int .i64 k] W fun e w' => e = .returned (.int .i64 (d.double k).1) ∧ WGrew base F W p w' (d.double k).2 := by
  obtain ⟨D, s, ls, h1, h2, h3, h4⟩ := id h
  have e1 : ls.map Lt.msg = d.ms := by rw [← h2]; rfl
  have e2 : ls.length = d.ms.length := by rw [← e1]; simp
  obtain ⟨o1, o2, o3, o4, o5, o6, o7⟩ := hok
  unfold Wd.double
  by_cases hk : d.has k
  · obtain ⟨j, rfl⟩ : ∃ j : Nat, k = j := ⟨k.toNat, by have := hk.1; omega⟩
    have hj : j < ls.length := by have := hk.2; omega
    have hm : d.at_ (j : Int) = (ls[j]'hj).msg := by unfold Wd.at_; rw [msg_at e1 j hj]; simp
    simp only [if_pos hk]
    by_cases hf : 10000 ≤ d.ms.length
    · simp only [if_pos hf]
      refine (double_full h1 j hj (by omega) (by omega)).mono ?_
      rintro e w' ⟨rfl, hs⟩
      exact ⟨rfl, WGrew.same h hs⟩
    · simp only [if_neg hf]
      refine (double_ok h1 hb j hj (by omega)).mono ?_
      rintro e w' ⟨rfl, v', x, ⟨D', a1, a2, a3⟩, hx⟩
      refine ⟨rfl, ?_⟩
      have := WGrew.mk h3 a1 a2 a3
      rw [List.map_append, List.map_cons, List.map_nil, hx] at this
      have e : Wd.of { s with vl := v' } (ls.map Lt.msg ++ [(ls[j]'hj).msg]) d.cs = { d with ms := d.ms ++ [d.at_ (j : Int)] } := by
        rw [hm, e1, ← h2]; rfl
      rw [← e]
      exact this
  · simp only [if_neg hk]
    refine (double_err _ k 1 (by decide) W fun w' hs => look_out (h1.same hs) k (by unfold Wd.has at hk; omega)).mono ?_
    rintro e w' ⟨rfl, hs⟩
    exact ⟨rfl, WGrew.same h hs⟩
theorem wcut_o (h : WoO base F W p d) {m0 : Int} (hok : d.Ok m0) (m : Int) :
    Calls Try.prog 19 #[.pointer (some ⟨p, 0, none⟩), .int .i64 m] W fun e w' => e = .returned (.int .i64 (d.cut m).1) ∧ WGrew base F W p w' (d.cut m).2 := by
  obtain ⟨D, s, ls, h1, h2, h3, h4⟩ := id h
  have e1 : ls.map Lt.msg = d.ms := by rw [← h2]; rfl
  unfold Wd.cut
  by_cases hm : 0 ≤ m ∧ m / 2 ^ d.cs.length = 0
  · simp only [if_pos hm]
    refine (cut_ok h1 m hok.1.2.2.2.1 hm.1 hm.2).mono ?_
    rintro e w' ⟨rfl, hw, hu⟩
    refine ⟨rfl, ?_⟩
    have := WGrew.mk h3 hw (fun k hk => .inl hk) hu
    have e : Wd.of { s with mask := m } (ls.map Lt.msg) d.cs = { d with mask := m } := by rw [← h2]; rfl
    rw [← e]
    exact this
  · simp only [if_neg hm]
    refine (cut_bad h1 m hok.1.2.2.2.1 (by omega)).mono ?_
    rintro e w' ⟨rfl, hs⟩
    exact ⟨rfl, WGrew.same h hs⟩
theorem wtick_o (h : WoO base F W p d) {m0 : Int} (hok : d.Ok m0) (i : Int) :
    Calls Try.prog 10 #[.pointer (some ⟨p, 0, none⟩), .int .i64 i] W fun e w' => e = .returned (.int .i64 (d.tick i).1) ∧ WGrew base F W p w' (d.tick i).2 := by
  obtain ⟨D, s, ls, h1, h2, h3, h4⟩ := id h
  have e1 : ls.map Lt.msg = d.ms := by rw [← h2]; rfl
  have e3 : s.rho = d.rho := by rw [← h2]; rfl
  have hck : CkOk d.cs s.rho := by rw [e3]; exact hok.1
  unfold Wd.tick
  by_cases hi : i < 0 ∨ (d.cs.length : Int) ≤ i
  · simp only [if_pos hi]
    refine (tick_out h1.2.1 h1.2.2.2.1.rdr i hi).mono ?_
    rintro e w' ⟨rfl, hs⟩
    exact ⟨rfl, WGrew.same h hs⟩
  · simp only [if_neg hi]
    obtain ⟨k, rfl⟩ : ∃ k : Nat, i = k := ⟨i.toNat, by omega⟩
    have hkl : k < d.cs.length := by omega
    have hMI : MayI d.cs d.rho (k : Int) ↔ MayOk d.cs s.rho k := by unfold MayI; rw [e3]; simp [hkl]
    by_cases hm : MayI d.cs d.rho (k : Int)
    · simp only [if_pos hm]
      refine (tick_ok h1.2.1 h1.2.2.2.1 hck k hkl (hMI.1 hm)).mono ?_
      rintro e w' ⟨rfl, ho, hu⟩
      refine ⟨rfl, ?_⟩
      obtain ⟨a1, a2, a3, a4, a5, a6, a7, a8, a9, a10⟩ := h1
      have hw : WoV base D w' p s ls (d.cs.set k (d.cs.getD k 0 + 1)) :=
        ⟨a1, a2.upd hu a8, Own.upd a3 hu fun j hj e => a9 j hj e, ho, fun x hx => ⟨(a5 x hx).1.upd hu fun j hj e => (a10 j ((a5 x hx).2.1 j hj)).2.2 e, (a5 x hx).2⟩, a6.mono hu.size, a7, a8, a9, a10⟩
      have := WGrew.mk h3 hw (fun k hk => .inl hk) (hu.mono fun j _ e => .inr (.inr (.inl e)))
      have e : Wd.of s (ls.map Lt.msg) (d.cs.set k (d.cs.getD k 0 + 1)) = { d with cs := d.cs.set (k : Int).toNat (d.cs.getD (k : Int).toNat 0 + 1) } := by
        simp only [Int.toNat_natCast]
        conv => rhs; rw [← h2]
        rfl
      rw [← e]
      exact this
    · simp only [if_neg hm]
      refine (tick_not h1.2.1 h1.2.2.2.1.rdr hck k hkl fun q => hm (hMI.2 q)).mono ?_
      rintro e w' ⟨rfl, hs⟩
      exact ⟨rfl, WGrew.same h hs⟩
end
section
variable {d : Wd} {m : Int}
theorem Wd.Ok.more (h : d.Ok m) (h2 : m + 1 ≤ 1000000) : d.Ok (m + 1) := by
  obtain ⟨h1, h2', h3, h4, h5, h6, h7⟩ := h
  exact ⟨h1, h2', h3, ⟨h4.1, by omega⟩, ⟨h5.1, by omega⟩, h6, h2⟩
theorem away_len (d : Wd) (k : Int) : (d.away k).length ≤ d.ms.length := by
  unfold Wd.away
  simp
  omega
theorem Wd.Ok.take (h : d.Ok m) (h2 : m + 1 ≤ 1000000) (k : Int) : (d.take k).Ok (m + 1) := by
  have hl := away_len d k
  have hm := h.more h2
  obtain ⟨h1, h2', h3, h4, h5, h6, h7⟩ := h
  unfold Wd.take
  split
  · split
    · exact ⟨h1, h2', h3, ⟨h4.1, by dsimp only; omega⟩, ⟨by dsimp only; omega, by dsimp only; omega⟩, by dsimp only; omega, h2⟩
    · exact ⟨h1, h2', h3, ⟨by dsimp only; omega, by dsimp only; omega⟩, ⟨h5.1, by dsimp only; omega⟩, by dsimp only; omega, h2⟩
  · exact hm
theorem Wd.Ok.drop (h : d.Ok m) (h2 : m + 1 ≤ 1000000) (k : Int) : (d.drop k).2.Ok (m + 1) := by
  have hl := away_len d k
  have hm := h.more h2
  obtain ⟨h1, h2', h3, h4, h5, h6, h7⟩ := h
  unfold Wd.drop
  split
  · exact ⟨h1, h2', h3, ⟨h4.1, by dsimp only; omega⟩, ⟨by dsimp only; omega, by dsimp only; omega⟩, by dsimp only; omega, h2⟩
  · exact hm
theorem Wd.Ok.double (h : d.Ok m) (k : Int) : (d.double k).2.Ok m := by
  unfold Wd.double
  split
  · split
    · exact h
    · obtain ⟨h1, h2', h3, h4, h5, h6, h7⟩ := h
      exact ⟨h1, h2', h3, h4, h5, by simp; omega, h7⟩
  · exact h
theorem pow_most (n : Nat) (h : n ≤ 5) : (2 : Int) ^ n ≤ 32 := by
  have : n = 0 ∨ n = 1 ∨ n = 2 ∨ n = 3 ∨ n = 4 ∨ n = 5 := by omega
  rcases this with rfl | rfl | rfl | rfl | rfl | rfl <;> decide
theorem Wd.Ok.cut (h : d.Ok m) (x : Int) : (d.cut x).2.Ok m := by
  unfold Wd.cut
  split
  · rename_i hx
    obtain ⟨h1, h2', h3, h4, h5, h6, h7⟩ := h
    refine ⟨h1, h2', ⟨hx.1, ?_⟩, h4, h5, h6, h7⟩
    have hp : (0 : Int) < 2 ^ d.cs.length := Int.pow_pos (by decide)
    have q1 := Int.emod_lt_of_pos x hp
    have q2 := Int.mul_ediv_add_emod x (2 ^ d.cs.length)
    rw [hx.2, Int.mul_zero] at q2
    have := pow_most d.cs.length h1.2.2.2.1
    show x < 32
    omega
  · exact h
theorem Wd.Ok.tick (h : d.Ok m) (i : Int) : (d.tick i).2.Ok m := by
  unfold Wd.tick
  split
  · exact h
  · split
    · rename_i hi hm
      obtain ⟨h1, h2', h3, h4, h5, h6, h7⟩ := h
      have hk : i.toNat < d.cs.length := by omega
      exact ⟨h1.tick hk hm.2.2, h2'.tick h1.1 hk hm.2.2, h3, h4, h5, h6, h7⟩
    · exact h
end
end Go.Proofs.Ytppphelihimidaa
