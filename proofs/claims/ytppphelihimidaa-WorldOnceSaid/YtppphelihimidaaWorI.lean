/- WorldOnce: its plain law, and its state. -/
import Derived.Test.YtppphelihimidaaWorKn
namespace Go.Proofs.Ytppphelihimidaa
open Go.RowKit
set_option linter.unusedVariables false
set_option linter.unusedSimpArgs false
/-- The bytes of a letter. -/
def by1 (b : Nat) : List UInt8 := [UInt8.ofNat b]
theorem by1_inj {a b : Nat} (ha : a < 256) (hb : b < 256) (h : by1 a = by1 b) : a = b := by
  unfold by1 at h
  injection h with h
  have := congrArg UInt8.toNat h
  simp only [UInt8.toNat_ofNat'] at this
  omega
/-- How many are on their way. -/
def cnt (b : Nat) (ms : List Msg) : Nat := ms.countP (fun m => decide (m.2.2 = by1 b))
theorem cnt_append (b : Nat) (xs ys : List Msg) : cnt b (xs ++ ys) = cnt b xs + cnt b ys := List.countP_append ..
theorem cnt_cons (b : Nat) (m : Msg) (xs : List Msg) : cnt b (m :: xs) = cnt b xs + if m.2.2 = by1 b then 1 else 0 := by
  unfold cnt
  rw [List.countP_cons]
  by_cases h : m.2.2 = by1 b <;> simp [h]
theorem ms_split (d : Wd) (k : Int) (hk : d.has k) : d.ms = d.ms.take k.toNat ++ d.at_ k :: d.ms.drop (k.toNat + 1) := by
  obtain ⟨h1, h2⟩ := hk
  have hl : k.toNat < d.ms.length := by omega
  unfold Wd.at_
  rw [List.getD_eq_getElem?_getD, List.getElem?_eq_getElem hl, Option.getD_some, ← List.drop_eq_getElem_cons hl, List.take_append_drop]
theorem at_mem (d : Wd) (k : Int) (hk : d.has k) : d.at_ k ∈ d.ms := by
  have := ms_split d k hk
  rw [this]
  simp
theorem away_mem (d : Wd) (k : Int) {m : Msg} (h : m ∈ d.away k) : m ∈ d.ms := by
  unfold Wd.away at h
  rcases List.mem_append.1 h with h | h
  · exact List.mem_of_mem_take h
  · exact List.mem_of_mem_drop h
theorem cnt_away (d : Wd) (k : Int) (hk : d.has k) (b : Nat) : cnt b (d.away k) + (if (d.at_ k).2.2 = by1 b then 1 else 0) = cnt b d.ms := by
  have h := congrArg (cnt b) (ms_split d k hk)
  rw [cnt_append, cnt_cons] at h
  unfold Wd.away
  rw [cnt_append]
  omega
/-- Behind i calls. -/
structure OInv (d : Wd) (S : Nat) (cm tw : List Int) (i M : Nat) : Prop where
  ok : d.Ok i
  sh : d.sh = false
  n : d.cs.length = M
  len : d.ms.length ≤ i
  s : S ≤ i
  one : ∀ m ∈ d.ms, ∃ b, b < S ∧ m.2.2 = by1 b
  law : ∀ b, b < 200 → 0 ≤ cm.getD b 0 ∧ cm.getD b 0 ≤ i ∧ 0 ≤ tw.getD b 0 ∧ tw.getD b 0 ≤ i ∧ (cnt b d.ms : Int) + cm.getD b 0 ≤ (if b < S then 1 else 0) + tw.getD b 0
section
variable {d : Wd} {S : Nat} {cm tw : List Int} {i M : Nat}
/-- The state loses letters, or nothing. -/
theorem OInv.less (h : OInv d S cm tw i M) (hi : i < 150) (d' : Wd) (hok : d'.Ok ((i : Int) + 1)) (hsh : d'.sh = d.sh) (hcs : d'.cs = d.cs) (hl : d'.ms.length ≤ d.ms.length) (hm : ∀ m ∈ d'.ms, m ∈ d.ms) (hc : ∀ b, cnt b d'.ms ≤ cnt b d.ms) : OInv d' S cm tw (i + 1) M := by
  refine ⟨by simpa using hok, by rw [hsh, h.sh], by rw [hcs, h.n], by have := h.len; omega, by have := h.s; omega, fun m hx => h.one m (hm m hx), fun b hb => ?_⟩
  obtain ⟨h1, h2, h3, h4, h5⟩ := h.law b hb
  have := hc b
  exact ⟨h1, by omega, h3, by omega, by omega⟩
theorem OInv.ok1 (h : OInv d S cm tw i M) (hi : i < 150) : d.Ok ((i : Int) + 1) := h.ok.more (by omega)
theorem OInv.stay (h : OInv d S cm tw i M) (hi : i < 150) : OInv d S cm tw (i + 1) M := h.less hi d (h.ok1 hi) rfl rfl (Nat.le_refl _) (fun _ h => h) (fun _ => Nat.le_refl _)
theorem OInv.send (h : OInv d S cm tw i M) (hi : i < 150) (f t : Int) (hf : 0 ≤ f ∧ f < M) (ht : 0 ≤ t ∧ t < M) : (d.send f t (by1 S)).1 = 0 ∧ OInv (d.send f t (by1 S)).2 (S + 1) cm tw (i + 1) M := by
  have hcode : sendCode d.sh d.cs.length f t (by1 S).length d.ms.length = 0 := by
    have h1 := h.len
    have h2 : thereL d.cs.length [f, t] = true := by
      rw [thereL_two, h.n]
      have e1 : outB M f = false := by simp [outB]; omega
      have e2 : outB M t = false := by simp [outB]; omega
      rw [e1, e2]; rfl
    unfold sendCode
    rw [h.sh, h2]
    have h3 : ¬ (65536 < (by1 S).length) := by simp [by1]
    have h4 : ¬ (10000 ≤ d.ms.length) := by omega
    simp [h3, h4]
  have hok := (h.ok.send f t (by1 S)).more (show (i : Int) + 1 ≤ 1000000 by omega)
  have e : (d.send f t (by1 S)).2 = { d with ms := d.ms ++ [(f, t, by1 S)] } := by
    unfold Wd.send
    simp only [hcode, if_true]
  rw [e] at hok ⊢
  refine ⟨by unfold Wd.send; exact hcode, by simpa using hok, h.sh, h.n, by have := h.len; simp; omega, by have := h.s; omega, fun m hm => ?_, fun b hb => ?_⟩
  · rcases List.mem_append.1 hm with hm | hm
    · obtain ⟨b, h1, h2⟩ := h.one m hm
      exact ⟨b, by omega, h2⟩
    · simp at hm; subst hm
      exact ⟨S, by omega, rfl⟩
  · obtain ⟨h1, h2, h3, h4, h5⟩ := h.law b hb
    refine ⟨h1, by omega, h3, by omega, ?_⟩
    show ((cnt b (d.ms ++ [(f, t, by1 S)]) : Nat) : Int) + cm.getD b 0 ≤ _
    rw [cnt_append, cnt_cons]
    have hz : cnt b ([] : List Msg) = 0 := rfl
    by_cases hbS : by1 S = by1 b
    · have := by1_inj (by have := h.s; omega) (by omega) hbS
      subst this
      rw [if_neg (Nat.lt_irrefl _)] at h5
      rw [if_pos (show S < S + 1 by omega), if_pos rfl, hz]
      omega
    · rw [if_neg (show ¬ ((f, t, by1 S) : Msg).2.2 = by1 b from hbS), hz]
      have : (if b < S then (1 : Int) else 0) ≤ if b < S + 1 then 1 else 0 := by split <;> split <;> omega
      omega
theorem OInv.at_ (h : OInv d S cm tw i M) (k : Int) (hk : d.has k) : ∃ b, b < S ∧ (d.at_ k).2.2 = by1 b := h.one _ (at_mem d k hk)
theorem getD_put (xs : List Int) (b c : Nat) (x : Int) (hb : b < xs.length) : (xs.set b x).getD c 0 = if c = b then x else xs.getD c 0 := by
  rw [List.getD_eq_getElem?_getD, List.getElem?_set]
  by_cases h : b = c
  · subst h; simp [hb]
  · rw [if_neg h, if_neg (fun e => h e.symm), List.getD_eq_getElem?_getD]
theorem OInv.away (h : OInv d S cm tw i M) (hi : i < 150) (k : Int) (d' : Wd) (hk : d.has k) (hok : d'.Ok ((i : Int) + 1)) (hsh : d'.sh = d.sh) (hcs : d'.cs = d.cs) (hms : d'.ms = d.away k) : OInv d' S cm tw (i + 1) M :=
  h.less hi d' hok hsh hcs (by rw [hms]; exact away_len d k) (fun m hm => away_mem d k (by rwa [hms] at hm)) (fun b => by have := cnt_away d k hk b; rw [hms]; omega)
theorem OInv.took (h : OInv d S cm tw i M) (hi : i < 150) (k : Int) (d' : Wd) (hk : d.has k) (hok : d'.Ok ((i : Int) + 1)) (hsh : d'.sh = d.sh) (hcs : d'.cs = d.cs) (hms : d'.ms = d.away k) (b : Nat) (hb : b < S) (he : (d.at_ k).2.2 = by1 b) (hc : cm.length = 200) :
    OInv d' S (cm.set b (cm.getD b 0 + 1)) tw (i + 1) M := by
  obtain ⟨o1, o2, o3, o4, o5, o6, o7⟩ := h.away hi k d' hk hok hsh hcs hms
  refine ⟨o1, o2, o3, o4, o5, o6, fun c hcl => ?_⟩
  obtain ⟨h1, h2, h3, h4, h5⟩ := h.law c hcl
  have hs := h.s
  have hca := cnt_away d k hk c
  rw [getD_put cm b c _ (by omega), hms]
  by_cases hcb : c = b
  · subst hcb
    rw [if_pos he] at hca
    rw [if_pos rfl]
    exact ⟨by omega, by omega, h3, by omega, by omega⟩
  · rw [if_neg hcb]
    exact ⟨h1, by omega, h3, by omega, by omega⟩
theorem OInv.double (h : OInv d S cm tw i M) (hi : i < 150) (k : Int) (hk : d.has k) (b : Nat) (hb : b < S) (he : (d.at_ k).2.2 = by1 b) (hc : tw.length = 200) :
    (d.double k).1 = 0 ∧ OInv (d.double k).2 S cm (tw.set b (tw.getD b 0 + 1)) (i + 1) M := by
  have hl := h.len
  have hs := h.s
  have e : d.double k = (0, { d with ms := d.ms ++ [d.at_ k] }) := by
    unfold Wd.double
    rw [if_pos hk, if_neg (by omega)]
  have hok := (h.ok.double k).more (show (i : Int) + 1 ≤ 1000000 by omega)
  rw [e] at hok ⊢
  refine ⟨rfl, by simpa using hok, h.sh, h.n, by simp; omega, by omega, fun m hm => ?_, fun c hcl => ?_⟩
  · rcases List.mem_append.1 hm with hm | hm
    · exact h.one m hm
    · simp at hm; subst hm
      exact ⟨b, hb, he⟩
  · obtain ⟨h1, h2, h3, h4, h5⟩ := h.law c hcl
    rw [getD_put tw b c _ (by omega)]
    show _ ∧ _ ∧ _ ∧ _ ∧ ((cnt c (d.ms ++ [d.at_ k]) : Nat) : Int) + cm.getD c 0 ≤ _
    rw [cnt_append, cnt_cons]
    have hz : cnt c ([] : List Msg) = 0 := rfl
    rw [hz]
    by_cases hcb : c = b
    · subst hcb
      rw [if_pos he, if_pos rfl]
      exact ⟨h1, by omega, by omega, by omega, by omega⟩
    · have hne : ¬ (d.at_ k).2.2 = by1 c := fun e => hcb (by1_inj (by omega) (by omega) (e.symm.trans he))
      rw [if_neg hne, if_neg hcb]
      exact ⟨h1, by omega, h3, by omega, by omega⟩
theorem OInv.cut (h : OInv d S cm tw i M) (hi : i < 150) (m : Int) : OInv (d.cut m).2 S cm tw (i + 1) M := by
  have hok := (h.ok.cut m).more (show (i : Int) + 1 ≤ 1000000 by omega)
  refine h.less hi _ hok ?_ ?_ ?_ ?_ ?_ <;> unfold Wd.cut <;> split <;> simp
theorem OInv.drop (h : OInv d S cm tw i M) (hi : i < 150) (k : Int) : OInv (d.drop k).2 S cm tw (i + 1) M := by
  have hok := h.ok.drop (show (i : Int) + 1 ≤ 1000000 by omega) k
  by_cases hk : d.has k
  · have e : d.drop k = (0, { d with ms := d.away k, lo := d.lo + 1 }) := by unfold Wd.drop; rw [if_pos hk]
    rw [e] at hok ⊢
    exact h.away hi k _ hk hok rfl rfl rfl
  · have e : d.drop k = (1, d) := by unfold Wd.drop; rw [if_neg hk]
    rw [e]
    exact h.stay hi
theorem OInv.last (h : OInv d S cm tw i M) (b : Nat) (hb : b < S) (hi : i ≤ 150) : cm.getD b 0 ≤ 1 + tw.getD b 0 := by
  have hs := h.s
  obtain ⟨h1, h2, h3, h4, h5⟩ := h.law b (by omega)
  rw [if_pos hb] at h5
  omega
theorem OInv.first (M R : Nat) (h1 : 1 ≤ M) (h2 : M ≤ 5) (h3 : 1 ≤ R) (h4 : R ≤ 1000) : OInv (newD M R) 0 (List.replicate 200 0) (List.replicate 200 0) 0 M := by
  refine ⟨newD_ok h1 h2 h3 h4, rfl, by simp [newD], by simp [newD], by omega, by simp [newD], fun b hb => ?_⟩
  have e : (List.replicate 200 (0 : Int)).getD b 0 = 0 := by rw [List.getD_eq_getElem?_getD, List.getElem?_replicate]; simp [hb]
  rw [e]
  simp [newD, cnt]
end
/-- A row of 200 numbers beside the world. -/
def RowN (w0 W : World) (F : Nat → Prop) (b : Nat) (xs : List Int) : Prop := Own w0.heap.size W (.slice (some ⟨b, 0, none⟩) 200 200) 1 (xs.map nC) ∧ ¬ F b ∧ xs.length = 200
/-- The world and both rows. -/
def OnSt (w0 W : World) (p bc bt : Nat) (d : Wd) (cm tw : List Int) : Prop := ∃ F, WoO w0.heap.size F W p d ∧ Same w0 W ∧ RowN w0 W F bc cm ∧ RowN w0 W F bt tw ∧ bc ≠ bt
section
variable {w0 W W' : World} {F F' : Nat → Prop} {p b bc bt : Nat} {d d' : Wd} {cm tw xs : List Int}
theorem room200 (b : Nat) : room (.slice (some ⟨b, 0, none⟩) 200 200) = some b := room_some _ _ _ _ (by decide)
theorem RowN.ge (h : RowN w0 W F b xs) : w0.heap.size ≤ b ∧ b < W.heap.size := Own.ge h.1 (by decide) b (room200 b)
theorem RowN.step (h : RowN w0 W F b xs) (hs : Step F F' W W') : RowN w0 W' F' b xs :=
  ⟨Own.upd h.1 hs.1 (fun k hk e => by rw [room200] at hk; injection hk with hk; subst hk; exact h.2.1 e), fun e => (hs.2 b e).elim h.2.1 (fun e => by have := h.ge.2; omega), h.2.2⟩
theorem RowN.cell (h : RowN w0 W F b xs) (k : Nat) (hk : k < 200) : W.cell? ⟨b, k, none⟩ = some (.int .i64 (xs.getD k 0)) := by
  obtain ⟨b', off, e, c⟩ := Rdr.num h.1.rdr k (by have := h.2.2; omega)
  injection e with e
  injection e with e1 e2
  subst e1 e2
  rwa [Nat.zero_add] at c
theorem RowN.set (h : RowN w0 W F b xs) (k : Nat) (hk : k < 200) (x : Int) : RowN w0 (W.setCell ⟨b, k, none⟩ (.int .i64 x)) F b (xs.set k x) ∧ Upd (fun i => i = b) W (W.setCell ⟨b, k, none⟩ (.int .i64 x)) ∧ W.frozen? ⟨b, k, none⟩ = false := by
  obtain ⟨h1, h2, h3⟩ := h
  obtain ⟨q1, q2, q3⟩ := Own.set1 h1 k (by simp; omega) (nC x) rfl
  rw [Nat.zero_add] at q1 q2 q3
  refine ⟨⟨by rw [List.map_set]; exact q1, h2, by rw [List.length_set]; exact h3⟩, q2.mono fun i _ e => ?_, q3⟩
  rw [room200] at e
  injection e with e
  exact e.symm
theorem RowN.off (h : RowN w0 W F b xs) {c : Nat} (hu : Upd (fun i => i = c) W W') (hn : b ≠ c) : RowN w0 W' F b xs :=
  ⟨Own.upd h.1 hu (fun k hk e => by rw [room200] at hk; injection hk with hk; omega), h.2.1, h.2.2⟩
theorem OnSt.same (h : OnSt w0 W p bc bt d cm tw) (hs : Same W W') : OnSt w0 W' p bc bt d cm tw := by
  obtain ⟨F, h1, h2, h3, h4, h5⟩ := h
  exact ⟨F, h1.same hs, Same.trans h2 hs, h3.step (Step.same hs), h4.step (Step.same hs), h5⟩
theorem OnSt.grew (h1 : WoO w0.heap.size F W p d) (h2 : Same w0 W) (h3 : RowN w0 W F bc cm) (h4 : RowN w0 W F bt tw) (h5 : bc ≠ bt) (g : WGrew w0.heap.size F W p W' d') : OnSt w0 W' p bc bt d' cm tw := by
  obtain ⟨F', g1, g2⟩ := g
  exact ⟨F', g1, g2.keeps h2 h1.foot, h3.step g2, h4.step g2, h5⟩
theorem OnSt.putC (h : OnSt w0 W p bc bt d cm tw) (k : Nat) (hk : k < 200) (x : Int) : OnSt w0 (W.setCell ⟨bc, k, none⟩ (.int .i64 x)) p bc bt d (cm.set k x) tw ∧ W.frozen? ⟨bc, k, none⟩ = false := by
  obtain ⟨F, h1, h2, h3, h4, h5⟩ := h
  obtain ⟨q1, q2, q3⟩ := h3.set k hk x
  exact ⟨⟨F, h1.upd q2 (fun k hk e => h3.2.1 (e ▸ hk)), Same.into h2 q2 (fun k e => by have := h3.ge.1; omega), q1, h4.off q2 (fun e => h5 e.symm), h5⟩, q3⟩
theorem OnSt.putT (h : OnSt w0 W p bc bt d cm tw) (k : Nat) (hk : k < 200) (x : Int) : OnSt w0 (W.setCell ⟨bt, k, none⟩ (.int .i64 x)) p bc bt d cm (tw.set k x) ∧ W.frozen? ⟨bt, k, none⟩ = false := by
  obtain ⟨F, h1, h2, h3, h4, h5⟩ := h
  obtain ⟨q1, q2, q3⟩ := h4.set k hk x
  exact ⟨⟨F, h1.upd q2 (fun k hk e => h4.2.1 (e ▸ hk)), Same.into h2 q2 (fun k e => by have := h4.ge.1; omega), h3.off q2 h5, q1, h5⟩, q3⟩
theorem OnSt.cellC (h : OnSt w0 W p bc bt d cm tw) (k : Nat) (hk : k < 200) : W.cell? ⟨bc, k, none⟩ = some (.int .i64 (cm.getD k 0)) := by
  obtain ⟨F, h1, h2, h3, h4, h5⟩ := h
  exact h3.cell k hk
theorem OnSt.cellT (h : OnSt w0 W p bc bt d cm tw) (k : Nat) (hk : k < 200) : W.cell? ⟨bt, k, none⟩ = some (.int .i64 (tw.getD k 0)) := by
  obtain ⟨F, h1, h2, h3, h4, h5⟩ := h
  exact h4.cell k hk
theorem OnSt.len (h : OnSt w0 W p bc bt d cm tw) : cm.length = 200 ∧ tw.length = 200 := by
  obtain ⟨F, h1, h2, h3, h4, h5⟩ := h
  exact ⟨h3.2.2, h4.2.2⟩
theorem OnSt.s0 (h : OnSt w0 W p bc bt d cm tw) : Same w0 W := by
  obtain ⟨F, h1, h2, h3, h4, h5⟩ := h
  exact h2
theorem on_send (h : OnSt w0 W p bc bt d cm tw) {m : Int} (hok : d.Ok m) (f t : Int) (v : Value) (bs : List UInt8) (hv : Bs W v bs) (hbl : bs.length ≤ 200000000000000) :
    Calls Try.prog 13 #[.pointer (some ⟨p, 0, none⟩), .int .i64 f, .int .i64 t, v] W fun e w' => e = .returned (.int .i64 (d.send f t bs).1) ∧ OnSt w0 w' p bc bt (d.send f t bs).2 cm tw := by
  obtain ⟨F, h1, h2, h3, h4, h5⟩ := h
  refine (send_o h1 hok h2.size f t v bs hv hbl).mono ?_
  rintro e w' ⟨rfl, g⟩
  exact ⟨rfl, OnSt.grew h1 h2 h3 h4 h5 g⟩
theorem on_take (h : OnSt w0 W p bc bt d cm tw) {m : Int} (hok : d.Ok m) (k : Int) :
    Calls Try.prog 14 #[.pointer (some ⟨p, 0, none⟩), .int .i64 k] W fun e w' => TakeR W d k e w' ∧ OnSt w0 w' p bc bt (d.take k) cm tw := by
  obtain ⟨F, h1, h2, h3, h4, h5⟩ := h
  refine (wtake_o h1 hok h2.size k).mono ?_
  rintro e w' ⟨he, g⟩
  exact ⟨he, OnSt.grew h1 h2 h3 h4 h5 g⟩
theorem on_drop (h : OnSt w0 W p bc bt d cm tw) {m : Int} (hok : d.Ok m) (k : Int) :
    Calls Try.prog 16 #[.pointer (some ⟨p, 0, none⟩), .int .i64 k] W fun e w' => e = .returned (.int .i64 (d.drop k).1) ∧ OnSt w0 w' p bc bt (d.drop k).2 cm tw := by
  obtain ⟨F, h1, h2, h3, h4, h5⟩ := h
  refine (wdrop_o h1 hok h2.size k).mono ?_
  rintro e w' ⟨rfl, g⟩
  exact ⟨rfl, OnSt.grew h1 h2 h3 h4 h5 g⟩
theorem on_double {W0 : World} (h : OnSt w0 W0 p bc bt d cm tw) (hs : Same W0 W) {m : Int} (hok : d.Ok m) (k : Int) :
    Calls Try.prog 18 #[.pointer (some ⟨p, 0, none⟩), .int .i64 k] W fun e w' => e = .returned (.int .i64 (d.double k).1) ∧ OnSt w0 w' p bc bt (d.double k).2 cm tw ∧ Upd (fun k => k < W0.heap.size) W w' := by
  obtain ⟨F, h1, h2, h3, h4, h5⟩ := h
  refine (wdouble_o (h1.same hs) hok (Same.trans h2 hs).size k).mono ?_
  rintro e w' ⟨rfl, g⟩
  refine ⟨rfl, OnSt.grew (h1.same hs) (Same.trans h2 hs) (h3.step (Step.same hs)) (h4.step (Step.same hs)) h5 g, ?_⟩
  obtain ⟨F', g1, g2⟩ := g
  exact g2.1.mono fun k _ hk => (h1.foot k hk).2
theorem on_cut (h : OnSt w0 W p bc bt d cm tw) {m0 : Int} (hok : d.Ok m0) (m : Int) :
    Calls Try.prog 19 #[.pointer (some ⟨p, 0, none⟩), .int .i64 m] W fun e w' => e = .returned (.int .i64 (d.cut m).1) ∧ OnSt w0 w' p bc bt (d.cut m).2 cm tw := by
  obtain ⟨F, h1, h2, h3, h4, h5⟩ := h
  refine (wcut_o h1 hok m).mono ?_
  rintro e w' ⟨rfl, g⟩
  exact ⟨rfl, OnSt.grew h1 h2 h3 h4 h5 g⟩
open Classical in
theorem on_look (h : OnSt w0 W p bc bt d cm tw) {m : Int} (hok : d.Ok m) (k : Int) :
    Calls Try.prog 17 #[.pointer (some ⟨p, 0, none⟩), .int .i64 k] W fun e w' => (if d.has k then LookR W (d.at_ k) 0 e w' else e = .returned (noLet 1)) ∧ Same W w' := by
  obtain ⟨F, h1, h2, h3, h4, h5⟩ := id h
  exact look_o h1 hok k
theorem on_apart (h : OnSt w0 W p bc bt d cm tw) {m : Int} (hok : d.Ok m) (a b : Int) :
    Calls Try.prog 15 #[.pointer (some ⟨p, 0, none⟩), .int .i64 a, .int .i64 b] W fun e w' => e = .returned (.bool (apartB d.mask d.cs.length a b)) ∧ Same W w' := by
  obtain ⟨F, h1, h2, h3, h4, h5⟩ := h
  exact wapart_o h1 hok a b
/-- A letter's one byte. -/
theorem fresh_one {base b : Nat} {v : Value} (h : Fresh base W v (by1 b)) (hb : b < 256) : ∃ q off cap, v = .slice (some ⟨q, off, none⟩) 1 cap ∧ 1 ≤ cap ∧ W.cell? ⟨q, off, none⟩ = some (.int .u8 b) ∧ base ≤ q := by
  obtain ⟨A, n, cap, rfl, h1, h2, h3⟩ := Own.open_ h
  obtain rfl : n = 1 := by simpa [by1] using h1.symm
  obtain ⟨q, off, rfl⟩ := Fresh.addr h (by omega)
  refine ⟨q, off, cap, rfl, h2, ?_, (Own.ge h (by decide) q (room_some _ _ _ _ (by omega))).1⟩
  have := (Fresh.at_ h 0 (by simp [by1])).1
  rw [Nat.add_zero] at this
  rw [this]
  simp [at8, by1]
  omega
end
/-- Behind k rounds. -/
def OLoop (w0 W : World) (p bc bt M S k : Nat) : Prop := ∃ d cm tw, OnSt w0 W p bc bt d cm tw ∧ OInv d S cm tw k M
theorem OLoop.same {w0 W W' : World} {p bc bt M S k : Nat} (h : OLoop w0 W p bc bt M S k) (hs : Same W W') : OLoop w0 W' p bc bt M S k := by
  obtain ⟨d, cm, tw, h1, h2⟩ := h
  exact ⟨d, cm, tw, h1.same hs, h2⟩
theorem own_zeros (w W : World) (t : TypeId) (n b : Nat) (hn : n ≤ 1000) (hb : b = W.heap.size) (hz : w.heap.size ≤ W.heap.size) : Own w.heap.size (W.alloc (.cells (madeCells #[.int .i64 0] n) t)) (.slice (some ⟨b, 0, none⟩) n n) 1 ((List.replicate n (0 : Int)).map nC) := by
  refine Own.lit W (madeCells #[Value.int .i64 0] n) t ((List.replicate n (0 : Int)).map nC) b n n 1 w.heap.size hb (by omega) (fun j u hj => ?_) (by simp) (Nat.le_refl _) (by omega) (by simp [madeCells])
  obtain ⟨hj1, hj2⟩ := List.getElem?_eq_some_iff.1 hj
  simp only [List.length_map, List.length_replicate] at hj1
  simp only [List.map_replicate, List.getElem_replicate] at hj2
  subst hj2
  simp [madeCells, hj1, Nat.mod_one, nC]
theorem row_first {w W : World} {F : Nat → Prop} (t : TypeId) (b : Nat) (hb : b = W.heap.size) (hz : w.heap.size ≤ W.heap.size) (hF : ¬ F b) : RowN w (W.alloc (.cells (madeCells #[.int .i64 0] 200) t)) F b (List.replicate 200 0) :=
  ⟨own_zeros w W t 200 b (by decide) hb hz, hF, List.length_replicate⟩
theorem on_first {w W : World} {M R : Nat} {e : Ending} (hw : NewR w M R e W) (h1 : 1 ≤ M) (h2 : M ≤ 5) (h3 : 1 ≤ R) (h4 : R ≤ 1000) (t t2 : TypeId) :
    OLoop w ((W.alloc (.cells (madeCells #[.int .i64 0] 200) t)).alloc (.cells (madeCells #[.int .i64 0] 200) t2)) (w.heap.size + 1) W.heap.size (W.heap.size + 1) M 0 0 := by
  have hz := hw.2.1.lt
  refine ⟨newD M R, _, _, ⟨_, (WoO.new hw h1 (Nat.le_refl _)).same (((Upd.refl _ _).alloc _).alloc _), Same.trans hw.2.2.2 (((Upd.refl _ _).alloc _).alloc _), (row_first t _ rfl (by omega) (by omega)).step (Step.same ((Upd.refl _ _).alloc _)), row_first t2 _ (by simp) (by simp; omega) (by omega), by omega⟩, OInv.first M R h1 h2 h3 h4⟩
section
variable {w0 W : World} {p bc bt M S k : Nat} {d : Wd} {cm tw : List Int}
theorem ol_send (h : OnSt w0 W p bc bt d cm tw) (hi : OInv d S cm tw k M) (hk : k < 150) (f t : Int) (hf : 0 ≤ f ∧ f < M) (ht : 0 ≤ t ∧ t < M) (W' : World) (hs : Same W W') (v : Value) (hv : Bs W' v (by1 S)) :
    Calls Try.prog 13 #[.pointer (some ⟨p, 0, none⟩), .int .i64 f, .int .i64 t, v] W' fun e w' => e = .returned (.int .i64 0) ∧ OLoop w0 w' p bc bt M (S + 1) (k + 1) := by
  refine (on_send (h.same hs) hi.ok f t v (by1 S) hv (by simp [by1])).mono ?_
  rintro e w' ⟨rfl, h2⟩
  obtain ⟨e1, e2⟩ := hi.send hk f t hf ht
  rw [e1]
  exact ⟨rfl, _, cm, tw, h2, e2⟩
theorem ol_drop (h : OnSt w0 W p bc bt d cm tw) (hi : OInv d S cm tw k M) (hk : k < 150) (x : Int) (W' : World) (hs : Same W W') :
    Calls Try.prog 16 #[.pointer (some ⟨p, 0, none⟩), .int .i64 x] W' fun e w' => (∃ c, e = .returned (.int .i64 c)) ∧ OLoop w0 w' p bc bt M S (k + 1) := by
  refine (on_drop (h.same hs) hi.ok x).mono ?_
  rintro e w' ⟨rfl, h2⟩
  exact ⟨⟨_, rfl⟩, _, cm, tw, h2, hi.drop hk x⟩
theorem ol_cut (h : OnSt w0 W p bc bt d cm tw) (hi : OInv d S cm tw k M) (hk : k < 150) (x : Int) (W' : World) (hs : Same W W') :
    Calls Try.prog 19 #[.pointer (some ⟨p, 0, none⟩), .int .i64 x] W' fun e w' => (∃ c, e = .returned (.int .i64 c)) ∧ OLoop w0 w' p bc bt M S (k + 1) := by
  refine (on_cut (h.same hs) hi.ok x).mono ?_
  rintro e w' ⟨rfl, h2⟩
  exact ⟨⟨_, rfl⟩, _, cm, tw, h2, hi.cut hk x⟩
theorem ol_stay (h : OnSt w0 W p bc bt d cm tw) (hi : OInv d S cm tw k M) (hk : k < 150) : OLoop w0 W p bc bt M S (k + 1) := ⟨d, cm, tw, h, hi.stay hk⟩
/-- What Take tells. -/
def TookR (w0 W' : World) (p bc bt M S k : Nat) (e : Ending) (w' : World) : Prop :=
  (∃ c, c ≠ 0 ∧ e = .returned (noLet c) ∧ OLoop w0 w' p bc bt M S (k + 1)) ∨
    ∃ d' cm tw b f t v, b < S ∧ e = .returned (letV f t v 0) ∧ Fresh W'.heap.size w' v (by1 b) ∧ OnSt w0 w' p bc bt d' cm tw ∧ (∃ m, d'.Ok m) ∧ apartB d'.mask d'.cs.length f t = false ∧ (cm.getD b 0 ≤ 200 ∧ 0 ≤ cm.getD b 0) ∧ OInv d' S (cm.set b (cm.getD b 0 + 1)) tw (k + 1) M
theorem ol_take (h : OnSt w0 W p bc bt d cm tw) (hi : OInv d S cm tw k M) (hk : k < 150) (x : Int) (W' : World) (hs : Same W W') :
    Calls Try.prog 14 #[.pointer (some ⟨p, 0, none⟩), .int .i64 x] W' (TookR w0 W' p bc bt M S k) := by
  refine (on_take (h.same hs) hi.ok x).mono ?_
  rintro e w' ⟨he, h2⟩
  have hok := hi.ok.take (show (k : Int) + 1 ≤ 1000000 by omega) x
  unfold TakeR at he
  unfold Wd.take at h2 hok
  by_cases hx : d.has x
  · rw [if_pos hx] at he h2 hok
    by_cases hf : d.far x = true
    · rw [if_pos hf] at he h2 hok
      exact .inl ⟨5, by decide, he, _, cm, tw, h2, hi.away hk x _ hx hok rfl rfl rfl⟩
    · rw [if_neg hf] at he h2 hok
      obtain ⟨v, rfl, hv⟩ := he
      obtain ⟨b, hb, hbe⟩ := hi.at_ x hx
      rw [hbe] at hv
      have hl := hi.law b (by have := hi.s; omega)
      have hff : d.far x = false := by simpa using hf
      exact .inr ⟨_, cm, tw, b, _, _, v, hb, rfl, hv, h2, ⟨_, hok⟩, hff, ⟨by omega, hl.1⟩, hi.took hk x _ hx hok rfl rfl rfl b hb hbe h.len.1⟩
  · rw [if_neg hx] at he h2 hok
    exact .inl ⟨1, by decide, he, _, cm, tw, h2, hi.stay hk⟩
end
theorem bs_by1 (W : World) (S : Nat) (t : TypeId) (g : Nat) (hg : g = W.heap.size) (hS : S ≤ 255) : Bs (W.alloc (.cells #[.int .u8 S] t)) (.slice (some ⟨g, 0, none⟩) 1 1) (by1 S) := by
  have := Bs.one W S t g hg (by omega) (by omega)
  simpa [by1] using this
end Go.Proofs.Ytppphelihimidaa
