/- What a window's Come does to what it holds, in plain words. -/
import Derived.Test.YtjfcdinobhmmeaaWinSt
namespace Go.Proofs.Ytjfcdinobhmmeaa
open Go.RowKit
set_option linter.unusedVariables false
set_option linter.unusedSimpArgs false

/-- How far it is from a on to b, going round. -/
def ahead (a b : Int) : Int := (b - a) % 4294967296
theorem ahead_range (a b : Int) : 0 ≤ ahead a b ∧ ahead a b < 4294967296 := by unfold ahead; omega
def inB (a n x : Int) : Bool := decide (ahead a x < n)
/-- The command that is expected is told. -/
def WSt.told (s : WSt) (i : Nat) : WSt := { s with nx := (s.nx + 1) % 4294967296, bz := s.bz + 1, ls := s.ls.take i ++ s.ls.drop (i + 1), ts := s.ts ++ [((s.ls.getD i (0, 0)).2, false)] }
/-- All that may be told are told. -/
def WSt.drain : Nat → WSt → WSt
  | 0, s => s
  | k + 1, s => if 0 ≤ idxOf s.nx s.ls then drain k (s.told (idxOf s.nx s.ls).toNat) else s
/-- A command comes: the answer, and what there is then. -/
def WSt.come (s : WSt) (n : Int) (now : Bool) (id : Int) : Int × WSt :=
  if now then (if 64 ≤ early s.ts then (4, s) else (0, { s with ts := s.ts ++ [(id, true)] }))
  else if inB s.nx (s.sz - s.bz) n = true ∧ idxOf n s.ls < 0 then (0, WSt.drain (s.ls.length + 1) { s with ls := s.ls ++ [(n, id)] })
  else (5, s)
theorem idxOf_lt (n : Int) (ls : List (Int × Int)) (h : 0 ≤ idxOf n ls) : (idxOf n ls).toNat < ls.length ∧ idxOf n ls = ((idxOf n ls).toNat : Int) := by
  unfold idxOf at h ⊢
  split
  · rename_i i hi
    obtain ⟨h1, _⟩ := List.findIdx?_eq_some_iff_getElem.1 hi
    exact ⟨by simpa using h1, by simp⟩
  · rename_i hi
    rw [hi] at h
    simp at h
theorem idxOf_neg (n : Int) (ls : List (Int × Int)) (h : idxOf n ls < 0) : ∀ x ∈ ls, x.1 ≠ n := by
  unfold idxOf at h
  split at h
  · omega
  · rename_i hi
    intro x hx
    have := List.findIdx?_eq_none_iff.1 hi x hx
    simpa using this
theorem idxOf_at (n : Int) (ls : List (Int × Int)) (h : 0 ≤ idxOf n ls) : (ls.getD (idxOf n ls).toNat (0, 0)).1 = n := by
  have hl := (idxOf_lt n ls h).1
  unfold idxOf at h hl ⊢
  split
  · rename_i i hi
    obtain ⟨h1, h2, _⟩ := List.findIdx?_eq_some_iff_getElem.1 hi
    rw [hi] at hl
    have h1' : i < ls.length := h1
    simp only [Int.toNat_natCast, List.getD_eq_getElem?_getD, List.getElem?_eq_getElem h1', Option.getD_some]
    simpa using h2
  · rename_i hi
    rw [hi] at h
    simp at h
theorem told_len (s : WSt) (i : Nat) (h : i < s.ls.length) : (s.told i).ls.length + 1 = s.ls.length := by
  simp only [WSt.told, List.length_append, List.length_take, List.length_drop]
  omega
theorem drain_more (k : Nat) : ∀ s : WSt, s.ls.length ≤ k → WSt.drain (k + 1) s = WSt.drain k s := by
  induction k with
  | zero =>
    intro s hs
    have : s.ls = [] := List.eq_nil_of_length_eq_zero (by omega)
    simp [WSt.drain, this, idxOf]
  | succ k ih =>
    intro s hs
    rw [WSt.drain]
    conv => rhs; rw [WSt.drain]
    split
    · rename_i h
      have := told_len s _ (idxOf_lt _ _ h).1
      exact ih _ (by omega)
    · rfl
/-- Of an emptier window no more is told. -/
theorem drain_end (k : Nat) (s : WSt) (h : ¬ 0 ≤ idxOf s.nx s.ls) : WSt.drain k s = s := by
  cases k with
  | zero => rfl
  | succ k => rw [WSt.drain, if_neg h]
theorem drain_step (k : Nat) (s : WSt) (h : 0 ≤ idxOf s.nx s.ls) : WSt.drain (k + 1) s = WSt.drain k (s.told (idxOf s.nx s.ls).toNat) := by
  rw [WSt.drain, if_pos h]
/-- What a window keeps to: its places; the numbers that it holds are among those it may hold, each once. -/
def WSt.Ok (s : WSt) : Prop :=
  (0 ≤ s.nx ∧ s.nx ≤ 4294967295) ∧ (1 ≤ s.sz ∧ s.sz ≤ 64) ∧ (0 ≤ s.bz ∧ s.bz ≤ s.sz) ∧ (s.ls.map (·.1)).Nodup ∧ (∀ x ∈ s.ls, ahead s.nx x.1 < s.sz - s.bz ∧ 0 ≤ x.1 ∧ x.1 ≤ 4294967295) ∧ early s.ts ≤ 64
theorem nodup_bound : ∀ (m : Nat) (l : List Int), l.Nodup → (∀ x ∈ l, 0 ≤ x ∧ x < m) → l.length ≤ m := by
  intro m
  induction m with
  | zero =>
    intro l _ h
    cases l with
    | nil => simp
    | cons x l => have := h x (by simp); omega
  | succ m ih =>
    intro l hn h
    have h1 := ih (l.erase (m : Int)) (hn.erase _) fun x hx => by
      have hx2 := List.mem_of_mem_erase hx
      have hne : x ≠ (m : Int) := fun e => by
        subst e
        exact (List.Nodup.not_mem_erase hn) hx
      have := h x hx2
      omega
    have h2 := List.length_erase (a := (m : Int)) (l := l)
    split at h2 <;> omega
theorem nodup_map_on {α : Type} (f : α → Int) : ∀ (l : List Int) (g : Int → Int), l.Nodup → (∀ x ∈ l, ∀ y ∈ l, g x = g y → x = y) → (l.map g).Nodup := by
  intro l g hn hg
  induction l with
  | nil => simp
  | cons x l ih =>
    rw [List.map_cons, List.nodup_cons]
    rw [List.nodup_cons] at hn
    refine ⟨fun h => ?_, ih hn.2 fun a ha b hb => hg a (by simp [ha]) b (by simp [hb])⟩
    obtain ⟨y, hy, e⟩ := List.mem_map.1 h
    have := hg y (by simp [hy]) x (by simp) e
    subst this
    exact hn.1 hy
theorem WSt.Ok.len {s : WSt} (h : s.Ok) : (s.ls.length : Int) + s.bz ≤ s.sz := by
  obtain ⟨h1, h2, h3, h4, h5, h6⟩ := h
  have h7 := nodup_bound (s.sz - s.bz).toNat ((s.ls.map (·.1)).map (ahead s.nx)) (nodup_map_on id _ _ h4 fun x hx y hy e => by
    obtain ⟨a, ha, rfl⟩ := List.mem_map.1 hx
    obtain ⟨b, hb, rfl⟩ := List.mem_map.1 hy
    have := h5 a ha
    have := h5 b hb
    unfold ahead at *
    omega) fun x hx => by
    obtain ⟨y, hy, rfl⟩ := List.mem_map.1 hx
    obtain ⟨a, ha, rfl⟩ := List.mem_map.1 hy
    have h8 := (h5 a ha).1
    have := ahead_range s.nx a.1
    exact ⟨this.1, by omega⟩
  simp at h7
  omega
theorem WSt.Ok.told {s : WSt} (h : s.Ok) (hi : 0 ≤ idxOf s.nx s.ls) : (s.told (idxOf s.nx s.ls).toNat).Ok := by
  obtain ⟨h1, h2, h3, h4, h5, h6⟩ := h
  have hl := (idxOf_lt _ _ hi).1
  have ha := idxOf_at _ _ hi
  generalize (idxOf s.nx s.ls).toNat = i at hl ha ⊢
  have hm : s.ls.getD i (0, 0) ∈ s.ls := by
    rw [List.getD_eq_getElem?_getD, List.getElem?_eq_getElem hl]
    exact List.getElem_mem hl
  have hsp : s.ls = s.ls.take i ++ s.ls.getD i (0, 0) :: s.ls.drop (i + 1) := by
    rw [List.getD_eq_getElem?_getD, List.getElem?_eq_getElem hl]
    simp
  have h50 := (h5 _ hm).1
  rw [ha] at h50
  have hz : ahead s.nx s.nx = 0 := by unfold ahead; omega
  have hsub : (s.ls.take i ++ s.ls.drop (i + 1)).Sublist s.ls := by
    conv => rhs; rw [hsp]
    exact List.Sublist.append (List.Sublist.refl _) (List.sublist_cons_self _ _)
  have hnn : ∀ x ∈ s.ls.take i ++ s.ls.drop (i + 1), x.1 ≠ s.nx := by
    intro x hx e
    rw [hsp, List.map_append, List.map_cons, List.nodup_append] at h4
    obtain ⟨_, n2, n3⟩ := h4
    rw [List.nodup_cons] at n2
    rcases List.mem_append.1 hx with hx | hx
    · exact n3 x.1 (List.mem_map.2 ⟨x, hx, rfl⟩) (s.ls.getD i (0, 0)).1 (by simp) (by rw [ha, e])
    · exact n2.1 (List.mem_map.2 ⟨x, hx, by rw [ha, e]⟩)
  refine ⟨?_, h2, ?_, ?_, ?_, ?_⟩
  · simp only [WSt.told]
    omega
  · simp only [WSt.told]
    omega
  · simp only [WSt.told]
    exact h4.sublist (hsub.map _)
  · intro x hx
    simp only [WSt.told] at hx ⊢
    have hxs := hsub.subset hx
    have h7 := h5 x hxs
    have h8 := hnn x hx
    refine ⟨?_, h7.2⟩
    unfold ahead at *
    omega
  · simp only [WSt.told, early_snoc]
    simpa using h6
theorem WSt.Ok.drain (k : Nat) : ∀ {s : WSt}, s.Ok → (WSt.drain k s).Ok := by
  induction k with
  | zero => intro s h; exact h
  | succ k ih =>
    intro s h
    rw [WSt.drain]
    split
    · rename_i hi
      exact ih (h.told hi)
    · exact h
theorem WSt.Ok.hold {s : WSt} (h : s.Ok) {n id : Int} (h0 : 0 ≤ n) (hN : n ≤ 4294967295) (h1 : inB s.nx (s.sz - s.bz) n = true) (h2 : idxOf n s.ls < 0) : ({ s with ls := s.ls ++ [(n, id)] } : WSt).Ok := by
  obtain ⟨a1, a2, a3, a4, a5, a6⟩ := h
  refine ⟨a1, a2, a3, ?_, ?_, a6⟩
  · simp only [List.map_append, List.map_cons, List.map_nil]
    rw [List.nodup_append]
    refine ⟨a4, by simp, ?_⟩
    intro x hx y hy e
    obtain ⟨z, hz, rfl⟩ := List.mem_map.1 hx
    simp at hy
    subst hy
    exact idxOf_neg _ s.ls h2 z hz e
  · intro x hx
    simp only [List.mem_append, List.mem_singleton] at hx
    rcases hx with hx | rfl
    · exact a5 x hx
    · exact ⟨by simpa [inB] using h1, h0, hN⟩
theorem WSt.Ok.come {s : WSt} (h : s.Ok) {n id : Int} {now : Bool} (h0 : 0 ≤ n) (hN : n ≤ 4294967295) : (s.come n now id).2.Ok := by
  unfold WSt.come
  split
  · split
    · exact h
    · obtain ⟨a1, a2, a3, a4, a5, a6⟩ := h
      refine ⟨a1, a2, a3, a4, a5, ?_⟩
      simp only [early_snoc]
      simp
      omega
  · split
    · rename_i hh
      exact WSt.Ok.drain _ (h.hold h0 hN hh.1 hh.2)
    · exact h
/-- How many there are at most. -/
theorem told_tot (s : WSt) (i : Nat) (h : i < s.ls.length) : (s.told i).ls.length + (s.told i).ts.length = s.ls.length + s.ts.length := by
  have := told_len s i h
  simp only [WSt.told, List.length_append, List.length_cons, List.length_nil] at this ⊢
  omega
theorem drain_tot (k : Nat) : ∀ s : WSt, (WSt.drain k s).ls.length + (WSt.drain k s).ts.length = s.ls.length + s.ts.length := by
  induction k with
  | zero => intro s; rfl
  | succ k ih =>
    intro s
    rw [WSt.drain]
    split
    · rename_i hi
      rw [ih, told_tot _ _ (idxOf_lt _ _ hi).1]
    · rfl
theorem come_tot (s : WSt) (n : Int) (now : Bool) (id : Int) : (s.come n now id).2.ls.length + (s.come n now id).2.ts.length ≤ s.ls.length + s.ts.length + 1 := by
  unfold WSt.come
  split
  · split
    · simp
    · simp; omega
  · split
    · rw [drain_tot]
      simp
      omega
    · simp
theorem come_sz (s : WSt) (n : Int) (now : Bool) (id : Int) : (s.come n now id).2.sz = s.sz := by
  have hd : ∀ (k : Nat) (s : WSt), (WSt.drain k s).sz = s.sz := by
    intro k
    induction k with
    | zero => intro s; rfl
    | succ k ih => intro s; rw [WSt.drain]; split; · rw [ih]; rfl
                   · rfl
  unfold WSt.come
  split
  · split <;> rfl
  · split
    · rw [hd]
    · rfl
end Go.Proofs.Ytjfcdinobhmmeaa
