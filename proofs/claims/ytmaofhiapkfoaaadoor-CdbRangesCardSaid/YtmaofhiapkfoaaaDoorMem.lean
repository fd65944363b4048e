/- Words on memory: which blocks may have turned (Upd), what bytes a slice reads as (Bs), what a slice of the call's own may be written at (Fresh). Plain laws on worlds: no program in sight. -/
import Derived.Test.YtmaofhiapkfoaaaDoorBase
import Derived.Laws.BytesArg
import Derived.Lib.SlBytesConst
import Derived.Deep.OwnRows
namespace Go.Proofs.YtmaofhiapkfoaaaDoor
open Go.RowKit
set_option linter.unusedVariables false
set_option linter.unusedSimpArgs false

/-- The blocks of S may have turned; what else was there is as it was; nothing has gone. -/
structure Upd (S : Nat → Prop) (w w' : World) : Prop where
  os : w'.os = w.os
  tape : w'.tape = w.tape
  output : w'.output = w.output
  size : w.heap.size ≤ w'.heap.size
  block : ∀ k, k < w.heap.size → ¬ S k → w'.heap[k]? = w.heap[k]?
/-- Nothing that was there has turned. -/
abbrev Same (w w' : World) : Prop := Upd (fun _ => False) w w'

theorem Upd.refl (S : Nat → Prop) (w : World) : Upd S w w := ⟨rfl, rfl, rfl, Nat.le_refl _, fun _ _ _ => rfl⟩
theorem Upd.trans {S T : Nat → Prop} {a b c : World} (h : Upd S a b) (k : Upd T b c) (hT : ∀ i, i < a.heap.size → T i → S i) : Upd S a c :=
  ⟨k.os.trans h.os, k.tape.trans h.tape, k.output.trans h.output, Nat.le_trans h.size k.size,
    fun i hi hs => (k.block i (Nat.lt_of_lt_of_le hi h.size) fun ht => hs (hT i hi ht)).trans (h.block i hi hs)⟩
theorem Upd.mono {S T : Nat → Prop} {a b : World} (h : Upd S a b) (hT : ∀ i, i < a.heap.size → S i → T i) : Upd T a b :=
  ⟨h.os, h.tape, h.output, h.size, fun i hi ht => h.block i hi fun hs => ht (hT i hi hs)⟩
theorem Same.trans {S : Nat → Prop} {a b c : World} (h : Upd S a b) (k : Same b c) : Upd S a c := Upd.trans h k fun _ _ h => h.elim
theorem Same.then {S : Nat → Prop} {a b c : World} (h : Same a b) (k : Upd S b c) : Upd S a c := Upd.trans (h.mono fun _ _ h => h.elim) k fun _ _ h => h
theorem Upd.below {S : Nat → Prop} {a b : World} {B : Nat} (h : Upd S a b) (hB : B ≤ a.heap.size) (hS : ∀ i, S i → B ≤ i) : Below B a b :=
  ⟨h.os, h.tape, h.output, h.size, fun k hk => h.block k (by omega) fun hs => by have := hS k hs; omega⟩
theorem Same.below {a b : World} (h : Same a b) : Below a.heap.size a b := Upd.below h (Nat.le_refl _) fun _ h => h.elim
theorem Upd.of_below {a b : World} {B : Nat} (h : Below B a b) : Upd (fun k => B ≤ k) a b := ⟨h.os, h.tape, h.output, h.size, fun k _ hs => h.block k (by omega)⟩
theorem Same.of_below {a b : World} (h : Below a.heap.size a b) : Same a b := ⟨h.os, h.tape, h.output, h.size, fun k hk _ => h.block k hk⟩
theorem Upd.of_grown {a b : World} {row : Option Nat} (h : a.grownBy b row) : Upd (fun k => some k = row) a b := ⟨h.os, h.tape, h.output, h.size, fun k hk hs => h.block k hk hs⟩
theorem Same.of_grown {a b : World} (h : a.grownBy b none) : Same a b := ⟨h.os, h.tape, h.output, h.size, fun k hk _ => h.block k hk (by simp)⟩
theorem Upd.alloc {S : Nat → Prop} {a b : World} (h : Upd S a b) (o : Obj) : Upd S a (b.alloc o) :=
  ⟨h.os, h.tape, h.output, Nat.le_trans h.size (by simp), fun k hk hs => (Below.heap_alloc b o k (Nat.lt_of_lt_of_le hk h.size)).trans (h.block k hk hs)⟩
theorem Upd.drew {S : Nat → Prop} {a b : World} (h : Upd S a b) : Upd S a b.drew := ⟨h.os, h.tape, h.output, h.size, h.block⟩
theorem Upd.drewN {S : Nat → Prop} {a b : World} (h : Upd S a b) (n : Nat) : Upd S a (b.drewN n) := ⟨h.os, h.tape, h.output, h.size, h.block⟩
theorem Upd.setCell {S : Nat → Prop} {a b : World} (h : Upd S a b) {p : Addr} (hp : p.block < a.heap.size → S p.block) (u : Value) : Upd S a (b.setCell p u) :=
  ⟨h.os, h.tape, h.output, by simpa [World.setCell] using h.size, fun k hk hs => (Below.heap_setCell b p u k (fun e => hs (by subst e; exact hp hk))).trans (h.block k hk hs)⟩
theorem Upd.cell {S : Nat → Prop} {a b : World} (h : Upd S a b) {p : Addr} {v : Value} (hc : a.cell? p = some v) (hn : ¬ S p.block) : b.cell? p = some v :=
  (World.cell?_of_block (w := a) (h.block p.block (World.block_lt_of_cell? a p hc) hn)).trans hc
theorem Upd.frozen {S : Nat → Prop} {a b : World} (h : Upd S a b) {p : Addr} (hp : p.block < a.heap.size) (hn : ¬ S p.block) : b.frozen? p = a.frozen? p :=
  World.frozen?_of_block (w := a) (h.block p.block hp hn)
theorem Upd.heap {S : Nat → Prop} {a b : World} (h : Upd S a b) {k : Nat} {o : Obj} (hk : a.heap[k]? = some o) (hn : ¬ S k) : b.heap[k]? = some o :=
  (h.block k (Array.getElem?_eq_some_iff.1 hk).1 hn).trans hk

/-! ### Bytes that a slice reads as -/
/-- The slice value v reads as the bytes bs. -/
def Bs (w : World) (v : Value) (bs : List UInt8) : Prop :=
  ∃ A cap, v = .slice A bs.length cap ∧ bs.length ≤ cap ∧ cap ≤ 9223372036854775807 ∧ (bs = [] ∨ ∃ b off, A = some ⟨b, off, none⟩ ∧ BytesAt w b off bs)
/-- The block in which a slice has room (of one without room: none). -/
def room : Value → Option Nat
  | .slice (some a) _ cap => if cap = 0 then none else some a.block
  | _ => none
/-- It has its room in no block of S. -/
def Off (S : Nat → Prop) (v : Value) : Prop := ∀ k, room v = some k → ¬ S k
theorem room_some (b off n cap : Nat) (h : cap ≠ 0) : room (.slice (some ⟨b, off, none⟩) n cap) = some b := by simp [room, h]
theorem BytesAt.upd {S : Nat → Prop} {w w' : World} {b off : Nat} {bs : List UInt8} (h : BytesAt w b off bs) (hu : Upd S w w') (hn : ¬ S b) : BytesAt w' b off bs :=
  fun j hj => hu.cell (h j hj) hn
theorem Bs.upd {S : Nat → Prop} {w w' : World} {v : Value} {bs : List UInt8} (h : Bs w v bs) (hu : Upd S w w') (ho : Off S v) : Bs w' v bs := by
  obtain ⟨A, cap, rfl, h1, h2, h3⟩ := h
  refine ⟨A, cap, rfl, h1, h2, ?_⟩
  rcases h3 with h3 | ⟨b, off, rfl, h3⟩
  · exact .inl h3
  · by_cases hc : cap = 0
    · exact .inl (List.eq_nil_of_length_eq_zero (by omega))
    · exact .inr ⟨b, off, rfl, h3.upd hu (ho b (room_some _ _ _ _ hc))⟩
theorem Off.false (v : Value) : Off (fun _ => False) v := fun _ _ h => h
theorem Bs.same {w w' : World} {v : Value} {bs : List UInt8} (h : Bs w v bs) (hu : Same w w') : Bs w' v bs := h.upd hu (Off.false v)
theorem Bs.nil (w : World) : Bs w (.slice none 0 0) [] := ⟨none, 0, rfl, by simp, by omega, .inl rfl⟩
theorem Bs.block_lt {w : World} {v : Value} {bs : List UInt8} (h : Bs w v bs) (hne : bs ≠ []) : ∀ k, room v = some k → k < w.heap.size := by
  obtain ⟨A, cap, rfl, h1, h2, h3⟩ := h
  intro k hk
  rcases h3 with h3 | ⟨b, off, rfl, h3⟩
  · exact absurd h3 hne
  · have hl : 0 < bs.length := by cases bs with | nil => exact absurd rfl hne | cons => simp
    have := World.block_lt_of_cell? w _ (h3 0 hl)
    rw [room_some _ _ _ _ (by omega)] at hk
    injection hk with hk
    subst hk
    exact this
theorem BytesAt.drop {w : World} {b off : Nat} {bs : List UInt8} (h : BytesAt w b off bs) (lo : Nat) : BytesAt w b (off + lo) (bs.drop lo) := by
  intro j hj
  have := h (lo + j) (by simp at hj; omega)
  rw [Nat.add_assoc, this]
  simp [at8, List.getD_eq_getElem?_getD]
theorem BytesAt.take {w : World} {b off : Nat} {bs : List UInt8} (h : BytesAt w b off bs) (n : Nat) : BytesAt w b off (bs.take n) := by
  intro j hj
  have hj' : j < n ∧ j < bs.length := by simpa [Nat.lt_min] using hj
  rw [h j hj'.2]
  simp [at8, List.getD_eq_getElem?_getD, hj'.1]
/-- v[lo:] as the model lays it. -/
theorem Bs.drop {w : World} {A : Option Addr} {n cap : Nat} {bs : List UInt8} (h : Bs w (.slice A n cap) bs) (lo : Nat) (hlo : lo ≤ n) :
    Bs w (.slice (if cap = lo then A else A.map (·.add lo)) (n - lo) (cap - lo)) (bs.drop lo) := by
  obtain ⟨A', cap', e, h1, h2, h3⟩ := h
  injection e with e1 e2 e3
  subst e1 e3
  refine ⟨_, cap - lo, by rw [List.length_drop, e2], by rw [List.length_drop]; omega, by omega, ?_⟩
  rcases h3 with rfl | ⟨b, off, rfl, h3⟩
  · exact .inl (by simp)
  · by_cases hc : cap = lo
    · exact .inl (List.drop_eq_nil_of_le (by omega))
    · refine .inr ⟨b, off + lo, ?_, h3.drop lo⟩
      rw [if_neg hc]
      by_cases h0 : lo = 0
      · subst h0; simp [Addr.add]
      · simp [Addr.add, h0]
theorem Bs.take {w : World} {A : Option Addr} {n cap : Nat} {bs : List UInt8} (h : Bs w (.slice A n cap) bs) (hi : Nat) (hhi : hi ≤ n) :
    Bs w (.slice A hi cap) (bs.take hi) := by
  obtain ⟨A', cap', e, h1, h2, h3⟩ := h
  injection e with e1 e2 e3
  subst e1 e3
  have hl : (bs.take hi).length = hi := by rw [List.length_take]; omega
  refine ⟨A, cap, by rw [hl], by omega, h2, ?_⟩
  rcases h3 with rfl | ⟨b, off, rfl, h3⟩
  · exact .inl (by simp)
  · exact .inr ⟨b, off, rfl, h3.take hi⟩
/-- Its value, laid open: nil or empty, or an address behind which the bytes lie. -/
theorem Bs.cases {w : World} {v : Value} {bs : List UInt8} (h : Bs w v bs) :
    (bs = [] ∧ ∃ A cap, v = .slice A 0 cap ∧ cap ≤ 9223372036854775807) ∨
    (0 < bs.length ∧ ∃ b off cap, v = .slice (some ⟨b, off, none⟩) bs.length cap ∧ bs.length ≤ cap ∧ cap ≤ 9223372036854775807 ∧ BytesAt w b off bs) := by
  obtain ⟨A, cap, rfl, h1, h2, h3⟩ := h
  rcases h3 with rfl | ⟨b, off, rfl, h3⟩
  · exact .inl ⟨rfl, A, cap, rfl, h2⟩
  · rcases bs with _ | ⟨c, bs⟩
    · exact .inl ⟨rfl, _, cap, rfl, h2⟩
    · exact .inr ⟨by simp, b, off, cap, rfl, h1, h2, h3⟩

/-- Where byte k lies. -/
theorem Bs.at_ {w : World} {A : Option Addr} {n cap : Nat} {bs : List UInt8} (h : Bs w (.slice A n cap) bs) (k : Nat) (hk : k < bs.length) : ∃ b off, A = some ⟨b, off, none⟩ ∧ w.cell? ⟨b, off + k, none⟩ = some (.int .u8 (at8 bs k)) := by
  obtain ⟨A', cap', e, h1, h2, h3⟩ := h
  injection e with e1 e2 e3
  subst e1
  rcases h3 with rfl | ⟨b, off, rfl, h3⟩
  · simp at hk
  · exact ⟨b, off, rfl, h3 k hk⟩
/-- A new block that holds the bytes. -/
theorem Bs.lit (w : World) (C : Array Value) (t : TypeId) (fr : Nat × Nat) (bs : List UInt8) (g n cap : Nat) (hg : g = w.heap.size) (hC : ∀ j, j < bs.length → C[j]? = some (.int .u8 (at8 bs j))) (hn : n = bs.length) (hc : n ≤ cap) (hc2 : cap ≤ 9223372036854775807) :
    Bs (w.alloc (.cells C t fr)) (.slice (some ⟨g, 0, none⟩) n cap) bs := by
  subst hn
  subst hg
  refine ⟨_, cap, rfl, hc, hc2, .inr ⟨_, _, rfl, fun j hj => ?_⟩⟩
  have h : (w.alloc (.cells C t fr)).heap[w.heap.size]? = some (.cells C t fr) := heap_alloc_new w _
  unfold World.cell?
  rw [h]
  simp [hC j hj]
/-- make([]byte, m). -/
theorem make_bytes {P : Program} (t e : TypeId) (ht : P.underlying t = some (.slice e)) (hinfo : (P.info? e).map (fun i => (i.zero, i.size, i.bytes)) = some (some (.int .u8 0), 1, 1)) (m : Nat) (hm : m ≤ 281474976710656) (W : World) :
    (Instr.makeSlice t (.int .i64 (m : Int)) (.int .i64 (m : Int))).run P W = .ok (.slice (some ⟨W.heap.size, 0, none⟩) m m) (W.alloc (.cells (madeCells #[.int .u8 0] m) e)) :=
  run_make_row' t e (.int .u8 0) 1 ht hinfo rfl .i64 .i64 m (by omega) (by omega) W
theorem made_at (m j : Nat) (hj : j < m) : (madeCells #[Value.int .u8 0] m)[j]? = some (.int .u8 (at8 (List.replicate m 0) j)) := by
  have : at8 (List.replicate m 0) j = 0 := by simp [at8, List.getD_eq_getElem?_getD, hj]
  rw [this]
  simp [madeCells, hj, Nat.mod_one]
/-- Bytes as a string. -/
def strB (bs : List UInt8) : ByteArray := ⟨bs.toArray⟩
theorem strB_inj {xs ys : List UInt8} (h : strB xs = strB ys) : xs = ys := by
  have := congrArg (fun s : ByteArray => s.data.toList) h
  simpa [strB] using this
/-- string(b). -/
theorem conv_bs {P : Program} {src dst e : TypeId} (hs : P.underlying src = some (.slice e)) (he : P.underlying e = some (.int .u8)) (hd : P.underlying dst = some .string) {w : World} {v : Value} {bs : List UInt8} (h : Bs w v bs) :
    (convert src dst v).run P w = .ok (.string (strB bs)) w := by
  have hstr : strOfNums (bs.map fun b => (b.toNat : Int)) = strB bs := by
    unfold strOfNums strB
    congr 2
    rw [List.map_map]
    conv => rhs; rw [← List.map_id bs]
    apply List.map_congr_left
    intro b _
    simp
  rcases h.cases with ⟨rfl, A, cap, rfl, h1⟩ | ⟨h0, b, off, cap, rfl, h1, h2, h3⟩
  · rcases A with _ | a
    · exact run_convert_bytes_nil w src e hs he 0 cap dst hd
    · have hl := run_loadCells_list (P := P) w a [] (fun j v hj => by simp at hj)
      have hb := run_bytesToString w a 0 cap [] (by simpa using hl)
      rw [run_convert_bytes_string w src dst e _ 0 cap hs he hd, hb]
      rfl
  · rw [run_convert_bytes_arg w src e hs he b off bs.length cap (bs.map fun b => (b.toNat : Int)) (by simp) (fun i hi => by
      rw [h3 i hi]
      simp [at8, List.getD_eq_getElem?_getD, List.getElem?_eq_getElem hi]) dst hd, hstr]

end Go.Proofs.YtmaofhiapkfoaaaDoor
