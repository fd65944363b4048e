/- Texts that serve the proofs of this chapter, put together. -/
import Derived.Test.YtccbkagmglddfaaRows
import Derived.WalkKit
import Derived.WalkSpells
import Derived.WalkLawsBesides
import Derived.Lib.Hide
import Derived.Laws.BytesArg
import Derived.Lib.SlBytesConst
import Derived.Deep.OwnRows
import Derived.ArgAppend
import Derived.Laws.IdiomCopy
import Derived.Deep.DeepAppendWide
import Derived.ProofKit
import Derived.OpenShut
import Derived.ShutString
import Derived.ChangeOld
import Derived.SizedLaws
import Derived.Carry
import Derived.Deep.Slices
import Derived.ChangeArms
import Derived.Deep.RegionHeld3
import Derived.Deep.RegionLaw
import Derived.Test.YtccbkagmglddfaaCrc
import Derived.Deep.QuietTactic
import Derived.BigQuiet
import Derived.OrdersHeld
import Derived.RegionTactic
import Derived.Deep.RegionHeld
namespace Go.Proofs.Ytccbkagmglddfaa
section
open Go.RowKit
set_option linter.unusedVariables false
set_option linter.unusedSimpArgs false

theorem ret_int {k : IntKind} {a b : Int} (h : a = b) : Ending.returned (.int k a) = .returned (.int k b) := by rw [h]
theorem ret_bool {a b : Bool} (h : a = b) : Ending.returned (.bool a) = .returned (.bool b) := by rw [h]

/-- A word of 32 bits as Go's number. -/
def u32v (r : BitVec 32) : Int := (r.toNat : Int)
theorem u32v_range (r : BitVec 32) : 0 ≤ u32v r ∧ u32v r ≤ 4294967295 := by
  have := r.isLt
  unfold u32v
  omega
theorem ofInt_u32v (r : BitVec 32) : BitVec.ofInt 32 (u32v r) = r := by
  unfold u32v
  rw [BitVec.ofInt_natCast, BitVec.ofNat_toNat, BitVec.setWidth_eq]
theorem wrap_u32v (r : BitVec 32) : IntKind.u32.wrap (r.toNat : Int) = u32v r := by
  have := r.isLt
  rw [IntKind.wrap_u32']
  unfold u32v
  omega
theorem u32v_inj {r s : BitVec 32} (h : u32v r = u32v s) : r = s := by
  unfold u32v at h
  apply BitVec.eq_of_toNat_eq
  omega
theorem u32_xor (r s : BitVec 32) : bits .xor .u32 (u32v r) (u32v s) = u32v (r ^^^ s) := by
  show IntKind.u32.wrap ((BitVec.ofInt 32 (u32v r) ^^^ BitVec.ofInt 32 (u32v s)).toNat : Int) = _
  rw [ofInt_u32v, ofInt_u32v, wrap_u32v]
theorem u32_and (r s : BitVec 32) : bits .and .u32 (u32v r) (u32v s) = u32v (r &&& s) := by
  show IntKind.u32.wrap ((BitVec.ofInt 32 (u32v r) &&& BitVec.ofInt 32 (u32v s)).toNat : Int) = _
  rw [ofInt_u32v, ofInt_u32v, wrap_u32v]

/-- The number of byte j of some bytes. -/
def at8 (bs : List UInt8) (j : Nat) : Int := ((bs.getD j 0).toNat : Int)
theorem at8_range (bs : List UInt8) (j : Nat) : 0 ≤ at8 bs j ∧ at8 bs j ≤ 255 := by
  have := (bs.getD j 0).toNat_lt
  unfold at8
  omega
/-- Behind an address the bytes bs lie. -/
def BytesAt (w : World) (b off : Nat) (bs : List UInt8) : Prop := ∀ j, j < bs.length → w.cell? ⟨b, off + j, none⟩ = some (.int .u8 (at8 bs j))
end
section
open Go.RowKit
set_option linter.unusedVariables false
set_option linter.unusedSimpArgs false

/-- The blocks of S may have turned; what else was there is as it was; nothing has gone. -/
structure Upd (S : Nat → Prop) (w w' : World) : Prop where
  os : w'.os = w.os
  tape : w'.tape = w.tape
  output : w'.output = w.output
  size : w.heap.size ≤ w'.heap.size
  block : ∀ k, k < w.heap.size → ¬ S k → w'.heap[k]? = w.heap[k]?
/-- Nothing that was there has turned. -/
abbrev Same (w w' : World) : Prop := Upd (fun _ => False) w w'

theorem Upd.refl (S : Nat → Prop) (w : World) : Upd S w w := ⟨rfl, rfl, rfl, Nat.le_refl _, fun _ _ _ => rfl⟩
theorem Upd.trans {S T : Nat → Prop} {a b c : World} (h : Upd S a b) (k : Upd T b c) (hT : ∀ i, i < a.heap.size → T i → S i) : Upd S a c :=
  ⟨k.os.trans h.os, k.tape.trans h.tape, k.output.trans h.output, Nat.le_trans h.size k.size,
    fun i hi hs => (k.block i (Nat.lt_of_lt_of_le hi h.size) fun ht => hs (hT i hi ht)).trans (h.block i hi hs)⟩
theorem Upd.mono {S T : Nat → Prop} {a b : World} (h : Upd S a b) (hT : ∀ i, i < a.heap.size → S i → T i) : Upd T a b :=
  ⟨h.os, h.tape, h.output, h.size, fun i hi ht => h.block i hi fun hs => ht (hT i hi hs)⟩
theorem Same.trans {S : Nat → Prop} {a b c : World} (h : Upd S a b) (k : Same b c) : Upd S a c := Upd.trans h k fun _ _ h => h.elim
theorem Same.then {S : Nat → Prop} {a b c : World} (h : Same a b) (k : Upd S b c) : Upd S a c := Upd.trans (h.mono fun _ _ h => h.elim) k fun _ _ h => h
theorem Upd.below {S : Nat → Prop} {a b : World} {B : Nat} (h : Upd S a b) (hB : B ≤ a.heap.size) (hS : ∀ i, S i → B ≤ i) : Below B a b :=
  ⟨h.os, h.tape, h.output, h.size, fun k hk => h.block k (by omega) fun hs => by have := hS k hs; omega⟩
theorem Same.below {a b : World} (h : Same a b) : Below a.heap.size a b := Upd.below h (Nat.le_refl _) fun _ h => h.elim
theorem Upd.of_below {a b : World} {B : Nat} (h : Below B a b) : Upd (fun k => B ≤ k) a b := ⟨h.os, h.tape, h.output, h.size, fun k _ hs => h.block k (by omega)⟩
theorem Same.of_below {a b : World} (h : Below a.heap.size a b) : Same a b := ⟨h.os, h.tape, h.output, h.size, fun k hk _ => h.block k hk⟩
theorem Upd.of_grown {a b : World} {row : Option Nat} (h : a.grownBy b row) : Upd (fun k => some k = row) a b := ⟨h.os, h.tape, h.output, h.size, fun k hk hs => h.block k hk hs⟩
theorem Same.of_grown {a b : World} (h : a.grownBy b none) : Same a b := ⟨h.os, h.tape, h.output, h.size, fun k hk _ => h.block k hk (by simp)⟩
theorem Upd.alloc {S : Nat → Prop} {a b : World} (h : Upd S a b) (o : Obj) : Upd S a (b.alloc o) :=
  ⟨h.os, h.tape, h.output, Nat.le_trans h.size (by simp), fun k hk hs => (Below.heap_alloc b o k (Nat.lt_of_lt_of_le hk h.size)).trans (h.block k hk hs)⟩
theorem Upd.drew {S : Nat → Prop} {a b : World} (h : Upd S a b) : Upd S a b.drew := ⟨h.os, h.tape, h.output, h.size, h.block⟩
theorem Upd.drewN {S : Nat → Prop} {a b : World} (h : Upd S a b) (n : Nat) : Upd S a (b.drewN n) := ⟨h.os, h.tape, h.output, h.size, h.block⟩
theorem Upd.setCell {S : Nat → Prop} {a b : World} (h : Upd S a b) {p : Addr} (hp : p.block < a.heap.size → S p.block) (u : Value) : Upd S a (b.setCell p u) :=
  ⟨h.os, h.tape, h.output, by simpa [World.setCell] using h.size, fun k hk hs => (Below.heap_setCell b p u k (fun e => hs (by subst e; exact hp hk))).trans (h.block k hk hs)⟩
theorem Upd.cell {S : Nat → Prop} {a b : World} (h : Upd S a b) {p : Addr} {v : Value} (hc : a.cell? p = some v) (hn : ¬ S p.block) : b.cell? p = some v :=
  (World.cell?_of_block (w := a) (h.block p.block (World.block_lt_of_cell? a p hc) hn)).trans hc
theorem Upd.frozen {S : Nat → Prop} {a b : World} (h : Upd S a b) {p : Addr} (hp : p.block < a.heap.size) (hn : ¬ S p.block) : b.frozen? p = a.frozen? p :=
  World.frozen?_of_block (w := a) (h.block p.block hp hn)
theorem Upd.heap {S : Nat → Prop} {a b : World} (h : Upd S a b) {k : Nat} {o : Obj} (hk : a.heap[k]? = some o) (hn : ¬ S k) : b.heap[k]? = some o :=
  (h.block k (Array.getElem?_eq_some_iff.1 hk).1 hn).trans hk

/-! ### Bytes that a slice reads as -/
/-- The slice value v reads as the bytes bs. -/
def Bs (w : World) (v : Value) (bs : List UInt8) : Prop :=
  ∃ A cap, v = .slice A bs.length cap ∧ bs.length ≤ cap ∧ cap ≤ 9223372036854775807 ∧ (bs = [] ∨ ∃ b off, A = some ⟨b, off, none⟩ ∧ BytesAt w b off bs)
/-- The block in which a slice has room (of one without room: none). -/
def room : Value → Option Nat
  | .slice (some a) _ cap => if cap = 0 then none else some a.block
  | _ => none
/-- It has its room in no block of S. -/
def Off (S : Nat → Prop) (v : Value) : Prop := ∀ k, room v = some k → ¬ S k
theorem room_some (b off n cap : Nat) (h : cap ≠ 0) : room (.slice (some ⟨b, off, none⟩) n cap) = some b := by simp [room, h]
theorem BytesAt.upd {S : Nat → Prop} {w w' : World} {b off : Nat} {bs : List UInt8} (h : BytesAt w b off bs) (hu : Upd S w w') (hn : ¬ S b) : BytesAt w' b off bs :=
  fun j hj => hu.cell (h j hj) hn
theorem Bs.upd {S : Nat → Prop} {w w' : World} {v : Value} {bs : List UInt8} (h : Bs w v bs) (hu : Upd S w w') (ho : Off S v) : Bs w' v bs := by
  obtain ⟨A, cap, rfl, h1, h2, h3⟩ := h
  refine ⟨A, cap, rfl, h1, h2, ?_⟩
  rcases h3 with h3 | ⟨b, off, rfl, h3⟩
  · exact .inl h3
  · by_cases hc : cap = 0
    · exact .inl (List.eq_nil_of_length_eq_zero (by omega))
    · exact .inr ⟨b, off, rfl, h3.upd hu (ho b (room_some _ _ _ _ hc))⟩
theorem Off.false (v : Value) : Off (fun _ => False) v := fun _ _ h => h
theorem Bs.same {w w' : World} {v : Value} {bs : List UInt8} (h : Bs w v bs) (hu : Same w w') : Bs w' v bs := h.upd hu (Off.false v)
theorem Bs.nil (w : World) : Bs w (.slice none 0 0) [] := ⟨none, 0, rfl, by simp, by omega, .inl rfl⟩
theorem Bs.block_lt {w : World} {v : Value} {bs : List UInt8} (h : Bs w v bs) (hne : bs ≠ []) : ∀ k, room v = some k → k < w.heap.size := by
  obtain ⟨A, cap, rfl, h1, h2, h3⟩ := h
  intro k hk
  rcases h3 with h3 | ⟨b, off, rfl, h3⟩
  · exact absurd h3 hne
  · have hl : 0 < bs.length := by cases bs with | nil => exact absurd rfl hne | cons => simp
    have := World.block_lt_of_cell? w _ (h3 0 hl)
    rw [room_some _ _ _ _ (by omega)] at hk
    injection hk with hk
    subst hk
    exact this
theorem BytesAt.drop {w : World} {b off : Nat} {bs : List UInt8} (h : BytesAt w b off bs) (lo : Nat) : BytesAt w b (off + lo) (bs.drop lo) := by
  intro j hj
  have := h (lo + j) (by simp at hj; omega)
  rw [Nat.add_assoc, this]
  simp [at8, List.getD_eq_getElem?_getD]
theorem BytesAt.take {w : World} {b off : Nat} {bs : List UInt8} (h : BytesAt w b off bs) (n : Nat) : BytesAt w b off (bs.take n) := by
  intro j hj
  have hj' : j < n ∧ j < bs.length := by simpa [Nat.lt_min] using hj
  rw [h j hj'.2]
  simp [at8, List.getD_eq_getElem?_getD, hj'.1]
/-- v[lo:] as the model lays it. -/
theorem Bs.drop {w : World} {A : Option Addr} {n cap : Nat} {bs : List UInt8} (h : Bs w (.slice A n cap) bs) (lo : Nat) (hlo : lo ≤ n) :
    Bs w (.slice (if cap = lo then A else A.map (·.add lo)) (n - lo) (cap - lo)) (bs.drop lo) := by
  obtain ⟨A', cap', e, h1, h2, h3⟩ := h
  injection e with e1 e2 e3
  subst e1 e3
  refine ⟨_, cap - lo, by rw [List.length_drop, e2], by rw [List.length_drop]; omega, by omega, ?_⟩
  rcases h3 with rfl | ⟨b, off, rfl, h3⟩
  · exact .inl (by simp)
  · by_cases hc : cap = lo
    · exact .inl (List.drop_eq_nil_of_le (by omega))
    · refine .inr ⟨b, off + lo, ?_, h3.drop lo⟩
      rw [if_neg hc]
      by_cases h0 : lo = 0
      · subst h0; simp [Addr.add]
      · simp [Addr.add, h0]
theorem Bs.take {w : World} {A : Option Addr} {n cap : Nat} {bs : List UInt8} (h : Bs w (.slice A n cap) bs) (hi : Nat) (hhi : hi ≤ n) :
    Bs w (.slice A hi cap) (bs.take hi) := by
  obtain ⟨A', cap', e, h1, h2, h3⟩ := h
  injection e with e1 e2 e3
  subst e1 e3
  have hl : (bs.take hi).length = hi := by rw [List.length_take]; omega
  refine ⟨A, cap, by rw [hl], by omega, h2, ?_⟩
  rcases h3 with rfl | ⟨b, off, rfl, h3⟩
  · exact .inl (by simp)
  · exact .inr ⟨b, off, rfl, h3.take hi⟩
/-- Its value, laid open: nil or empty, or an address behind which the bytes lie. -/
theorem Bs.cases {w : World} {v : Value} {bs : List UInt8} (h : Bs w v bs) :
    (bs = [] ∧ ∃ A cap, v = .slice A 0 cap ∧ cap ≤ 9223372036854775807) ∨
    (0 < bs.length ∧ ∃ b off cap, v = .slice (some ⟨b, off, none⟩) bs.length cap ∧ bs.length ≤ cap ∧ cap ≤ 9223372036854775807 ∧ BytesAt w b off bs) := by
  obtain ⟨A, cap, rfl, h1, h2, h3⟩ := h
  rcases h3 with rfl | ⟨b, off, rfl, h3⟩
  · exact .inl ⟨rfl, A, cap, rfl, h2⟩
  · rcases bs with _ | ⟨c, bs⟩
    · exact .inl ⟨rfl, _, cap, rfl, h2⟩
    · exact .inr ⟨by simp, b, off, cap, rfl, h1, h2, h3⟩

/-- Where byte k lies. -/
theorem Bs.at_ {w : World} {A : Option Addr} {n cap : Nat} {bs : List UInt8} (h : Bs w (.slice A n cap) bs) (k : Nat) (hk : k < bs.length) : ∃ b off, A = some ⟨b, off, none⟩ ∧ w.cell? ⟨b, off + k, none⟩ = some (.int .u8 (at8 bs k)) := by
  obtain ⟨A', cap', e, h1, h2, h3⟩ := h
  injection e with e1 e2 e3
  subst e1
  rcases h3 with rfl | ⟨b, off, rfl, h3⟩
  · simp at hk
  · exact ⟨b, off, rfl, h3 k hk⟩
/-- A new block that holds the bytes. -/
theorem Bs.lit (w : World) (C : Array Value) (t : TypeId) (fr : Nat × Nat) (bs : List UInt8) (g n cap : Nat) (hg : g = w.heap.size) (hC : ∀ j, j < bs.length → C[j]? = some (.int .u8 (at8 bs j))) (hn : n = bs.length) (hc : n ≤ cap) (hc2 : cap ≤ 9223372036854775807) :
    Bs (w.alloc (.cells C t fr)) (.slice (some ⟨g, 0, none⟩) n cap) bs := by
  subst hn
  subst hg
  refine ⟨_, cap, rfl, hc, hc2, .inr ⟨_, _, rfl, fun j hj => ?_⟩⟩
  have h : (w.alloc (.cells C t fr)).heap[w.heap.size]? = some (.cells C t fr) := heap_alloc_new w _
  unfold World.cell?
  rw [h]
  simp [hC j hj]
/-- make([]byte, m). -/
theorem make_bytes {P : Program} (t e : TypeId) (ht : P.underlying t = some (.slice e)) (hinfo : (P.info? e).map (fun i => (i.zero, i.size, i.bytes)) = some (some (.int .u8 0), 1, 1)) (m : Nat) (hm : m ≤ 281474976710656) (W : World) :
    (Instr.makeSlice t (.int .i64 (m : Int)) (.int .i64 (m : Int))).run P W = .ok (.slice (some ⟨W.heap.size, 0, none⟩) m m) (W.alloc (.cells (madeCells #[.int .u8 0] m) e)) :=
  run_make_row' t e (.int .u8 0) 1 ht hinfo rfl .i64 .i64 m (by omega) (by omega) W
theorem made_at (m j : Nat) (hj : j < m) : (madeCells #[Value.int .u8 0] m)[j]? = some (.int .u8 (at8 (List.replicate m 0) j)) := by
  have : at8 (List.replicate m 0) j = 0 := by simp [at8, List.getD_eq_getElem?_getD, hj]
  rw [this]
  simp [madeCells, hj, Nat.mod_one]
/-- Bytes as a string. -/
def strB (bs : List UInt8) : ByteArray := ⟨bs.toArray⟩
theorem strB_inj {xs ys : List UInt8} (h : strB xs = strB ys) : xs = ys := by
  have := congrArg (fun s : ByteArray => s.data.toList) h
  simpa [strB] using this
/-- string(b). -/
theorem conv_bs {P : Program} {src dst e : TypeId} (hs : P.underlying src = some (.slice e)) (he : P.underlying e = some (.int .u8)) (hd : P.underlying dst = some .string) {w : World} {v : Value} {bs : List UInt8} (h : Bs w v bs) :
    (convert src dst v).run P w = .ok (.string (strB bs)) w := by
  have hstr : strOfNums (bs.map fun b => (b.toNat : Int)) = strB bs := by
    unfold strOfNums strB
    congr 2
    rw [List.map_map]
    conv => rhs; rw [← List.map_id bs]
    apply List.map_congr_left
    intro b _
    simp
  rcases h.cases with ⟨rfl, A, cap, rfl, h1⟩ | ⟨h0, b, off, cap, rfl, h1, h2, h3⟩
  · rcases A with _ | a
    · exact run_convert_bytes_nil w src e hs he 0 cap dst hd
    · have hl := run_loadCells_list (P := P) w a [] (fun j v hj => by simp at hj)
      have hb := run_bytesToString w a 0 cap [] (by simpa using hl)
      rw [run_convert_bytes_string w src dst e _ 0 cap hs he hd, hb]
      rfl
  · rw [run_convert_bytes_arg w src e hs he b off bs.length cap (bs.map fun b => (b.toNat : Int)) (by simp) (fun i hi => by
      rw [h3 i hi]
      simp [at8, List.getD_eq_getElem?_getD, List.getElem?_eq_getElem hi]) dst hd, hstr]
end
section
open Go.RowKit
set_option linter.unusedVariables false
set_option linter.unusedSimpArgs false

/-- Cells behind an address. -/
def CellsAt (w : World) (b off : Nat) (cs : List Value) : Prop := ∀ j u, cs[j]? = some u → w.cell? ⟨b, off + j, none⟩ = some u
/-- v reads as elements of sz cells; all their cells, one behind the other, are cs. -/
def Rdr (w : World) (v : Value) (sz : Nat) (cs : List Value) : Prop :=
  ∃ A n cap, v = .slice A n cap ∧ cs.length = n * sz ∧ n ≤ cap ∧ cap ≤ 9223372036854775807 ∧ (cs = [] ∨ ∃ b off, A = some ⟨b, off, none⟩ ∧ CellsAt w b off cs)
/-- The cells from a place on are there and may be written. -/
def RoomAt (w : World) (b off k : Nat) : Prop := ∀ j, j < k → (w.cell? ⟨b, off + j, none⟩).isSome = true ∧ w.frozen? ⟨b, off + j, none⟩ = false
/-- v reads as cs, lies from block 'base' on, and may be written up to its capacity. -/
def Own (base : Nat) (w : World) (v : Value) (sz : Nat) (cs : List Value) : Prop :=
  ∃ A n cap, v = .slice A n cap ∧ cs.length = n * sz ∧ n ≤ cap ∧ cap ≤ 9223372036854775807 ∧ (cap = 0 ∨ ∃ b off, A = some ⟨b, off, none⟩ ∧ base ≤ b ∧ CellsAt w b off cs ∧ RoomAt w b off (cap * sz))
theorem Own.rdr {base : Nat} {w : World} {v : Value} {sz : Nat} {cs : List Value} (h : Own base w v sz cs) : Rdr w v sz cs := by
  obtain ⟨A, n, cap, rfl, h1, h2, h3, h4⟩ := h
  refine ⟨A, n, cap, rfl, h1, h2, h3, ?_⟩
  rcases h4 with rfl | ⟨b, off, rfl, hb, hc, hr⟩
  · have : n = 0 := by omega
    subst this
    exact .inl (List.eq_nil_of_length_eq_zero (by omega))
  · exact .inr ⟨b, off, rfl, hc⟩
theorem Own.nil (base : Nat) (w : World) (sz : Nat) : Own base w (.slice none 0 0) sz [] := ⟨none, 0, 0, rfl, by simp, by omega, by omega, .inl rfl⟩
theorem Rdr.nil (w : World) (sz : Nat) : Rdr w (.slice none 0 0) sz [] := (Own.nil 0 w sz).rdr
theorem CellsAt.upd {S : Nat → Prop} {w w' : World} {b off : Nat} {cs : List Value} (h : CellsAt w b off cs) (hu : Upd S w w') (hn : ¬ S b) : CellsAt w' b off cs := fun j u hj => hu.cell (h j u hj) hn
theorem RoomAt.lt {w : World} {b off k : Nat} (h : RoomAt w b off k) (hk : 0 < k) : b < w.heap.size := by
  have := (h 0 hk).1
  obtain ⟨u, hu⟩ := Option.isSome_iff_exists.1 this
  exact World.block_lt_of_cell? w _ hu
theorem RoomAt.upd {S : Nat → Prop} {w w' : World} {b off k : Nat} (h : RoomAt w b off k) (hu : Upd S w w') (hn : ¬ S b) : RoomAt w' b off k := by
  intro j hj
  have hb := h.lt (by omega)
  obtain ⟨h1, h2⟩ := h j hj
  obtain ⟨u, hu1⟩ := Option.isSome_iff_exists.1 h1
  refine ⟨?_, (hu.frozen (p := ⟨b, off + j, none⟩) hb hn).trans h2⟩
  rw [hu.cell hu1 hn]
  rfl
theorem Rdr.upd {S : Nat → Prop} {w w' : World} {v : Value} {sz : Nat} {cs : List Value} (h : Rdr w v sz cs) (hu : Upd S w w') (ho : Off S v) : Rdr w' v sz cs := by
  obtain ⟨A, n, cap, rfl, h1, h2, h3, h4⟩ := h
  refine ⟨A, n, cap, rfl, h1, h2, h3, ?_⟩
  rcases h4 with rfl | ⟨b, off, rfl, h4⟩
  · exact .inl rfl
  · by_cases hc : cap = 0
    · have : n = 0 := by omega
      subst this
      exact .inl (List.eq_nil_of_length_eq_zero (by omega))
    · exact .inr ⟨b, off, rfl, h4.upd hu (ho b (room_some _ _ _ _ hc))⟩
theorem Own.upd {base : Nat} {S : Nat → Prop} {w w' : World} {v : Value} {sz : Nat} {cs : List Value} (h : Own base w v sz cs) (hu : Upd S w w') (ho : Off S v) : Own base w' v sz cs := by
  obtain ⟨A, n, cap, rfl, h1, h2, h3, h4⟩ := h
  refine ⟨A, n, cap, rfl, h1, h2, h3, ?_⟩
  rcases h4 with rfl | ⟨b, off, rfl, hb, hc, hr⟩
  · exact .inl rfl
  · by_cases hc0 : cap = 0
    · exact .inl hc0
    · have hn := ho b (room_some _ _ _ _ hc0)
      exact .inr ⟨b, off, rfl, hb, hc.upd hu hn, hr.upd hu hn⟩
theorem Rdr.same {w w' : World} {v : Value} {sz : Nat} {cs : List Value} (h : Rdr w v sz cs) (hu : Same w w') : Rdr w' v sz cs := h.upd hu (Off.false v)
theorem Own.same {base : Nat} {w w' : World} {v : Value} {sz : Nat} {cs : List Value} (h : Own base w v sz cs) (hu : Same w w') : Own base w' v sz cs := h.upd hu (Off.false v)
theorem Own.mono {base base' : Nat} {w : World} {v : Value} {sz : Nat} {cs : List Value} (h : Own base w v sz cs) (hb : base' ≤ base) : Own base' w v sz cs := by
  obtain ⟨A, n, cap, rfl, h1, h2, h3, h4⟩ := h
  refine ⟨A, n, cap, rfl, h1, h2, h3, ?_⟩
  rcases h4 with rfl | ⟨b, off, rfl, hb', rest⟩
  · exact .inl rfl
  · exact .inr ⟨b, off, rfl, by omega, rest⟩
theorem Own.ge {base : Nat} {w : World} {v : Value} {sz : Nat} {cs : List Value} (h : Own base w v sz cs) (hs : 0 < sz) : ∀ k, room v = some k → base ≤ k ∧ k < w.heap.size := by
  obtain ⟨A, n, cap, rfl, h1, h2, h3, h4⟩ := h
  intro k hk
  rcases h4 with rfl | ⟨b, off, rfl, hb, hc, hr⟩
  · cases A <;> simp [room] at hk
  · by_cases hc0 : cap = 0
    · simp [room, hc0] at hk
    · rw [room_some _ _ _ _ hc0] at hk
      injection hk with hk
      subst hk
      exact ⟨hb, hr.lt (Nat.mul_pos (by omega) hs)⟩
/-- A row that a law on append or make left. -/
theorem Own.of_row {base : Nat} {w : World} {e : TypeId} {sz : Nat} {v : Value} {n : Nat} {cs : List Value} (h : w.ownsRow base e sz v n cs) : Own base w v sz cs ∧ ∃ A cap, v = .slice A n cap := by
  obtain ⟨h1, h2⟩ := h
  rcases h2 with ⟨rfl, rfl⟩ | ⟨g, cap, cur, rfl, hb, hg, h3, h4, h5, h6⟩
  · have : cs = [] := List.eq_nil_of_length_eq_zero (by omega)
    subst this
    exact ⟨Own.nil base w sz, none, 0, rfl⟩
  · refine ⟨⟨_, n, cap, rfl, h1, h3, by simpa [maxLen] using h4, .inr ⟨g, 0, rfl, hb, ?_, ?_⟩⟩, _, cap, rfl⟩
    · intro j u hj
      rw [Nat.zero_add, cell_of_row w g j cur e (0, 0) hg]
      rw [← h6, List.getElem?_take] at hj
      split at hj
      · simpa using hj
      · cases hj
    · intro j hj
      rw [Nat.zero_add, cell_of_row w g j cur e (0, 0) hg]
      exact ⟨by simp [h5, hj], by simp [World.frozen?, hg]⟩

/-- A new block, all its cells known. -/
theorem Own.lit (w : World) (C : Array Value) (t : TypeId) (cs : List Value) (g n cap sz base : Nat) (hg : g = w.heap.size) (hb : base ≤ g) (hC : ∀ (j : Nat) (u : Value), cs[j]? = some u → C[j]? = some u) (hn : cs.length = n * sz) (hc : n ≤ cap)
    (hm : cap ≤ 9223372036854775807) (hs : C.size = cap * sz) : Own base (w.alloc (.cells C t)) (.slice (some ⟨g, 0, none⟩) n cap) sz cs := by
  subst hg
  have h : (w.alloc (.cells C t)).heap[w.heap.size]? = some (.cells C t) := heap_alloc_new w _
  refine ⟨_, n, cap, rfl, hn, hc, hm, .inr ⟨_, 0, rfl, hb, ?_, ?_⟩⟩
  · intro j u hj
    rw [Nat.zero_add, cell_of_row _ _ j C t (0, 0) h]
    exact hC j u hj
  · intro j hj
    rw [Nat.zero_add, cell_of_row _ _ j C t (0, 0) h]
    refine ⟨by simp [hs, hj], ?_⟩
    unfold World.frozen?
    rw [h]
    simp
theorem setCells_size (b : Nat) : ∀ (vs : List Value) (o : Nat) (w : World), (w.setCells b o vs).heap.size = w.heap.size
  | [], _, _ => rfl
  | v :: r, o, w => by rw [World.setCells, setCells_size b r, World.size_setCell]
theorem setCells_upd (b : Nat) : ∀ (vs : List Value) (o : Nat) (w : World), Upd (fun k => k = b) w (w.setCells b o vs)
  | [], _, w => Upd.refl _ w
  | v :: r, o, w => by
    rw [World.setCells]
    exact Upd.trans ((Upd.refl (fun k => k = b) w).setCell (p := ⟨b, o, none⟩) (fun _ => rfl) v) (setCells_upd b r (o + 1) _) (fun _ _ h => h)

section
variable {P : Program}
/-- append(v, u...), v of the call's own, u whatever. -/
theorem run_append {t e : TypeId} {i : TypeInfo} {z : Value} {sz bytes : Nat} (ty : TypeId) (ht : P.underlying t = some (.slice e)) (hi : P.info? e = some i) (hz : i.zero = some z) (hsz : i.size = sz) (hby : i.bytes = bytes) (hzs : z.cells.size = sz) (hs0 : 0 < sz)
    {base : Nat} {w : World} {v u : Value} {xs ys : List Value} (hv : Own base w v sz xs) (hu : Rdr w u sz ys) (h1 : ∀ y ∈ ys, y.oneCell' = true) (hbase : base ≤ w.heap.size)
    (n m : Nat) (hn : xs.length = n * sz) (hm : ys.length = m * sz) (hb : ((n + m) + (n + m) / 4 + 192) * bytes ≤ 281474976710656) (hmax : n + m ≤ 9223372036854775807) :
    ∃ v' w', (Builtin.append_ #[t, t] ty #[v, u]).run P w = .ok v' w' ∧ Own base w' v' sz (xs ++ ys) ∧ Upd (fun k => room v = some k) w w' ∧ (∀ k, room v' = some k → room v = some k ∨ w.heap.size ≤ k) := by
  obtain ⟨A, n', cap, rfl, h2, h3, h4, h5⟩ := hv
  obtain ⟨B, m', c, rfl, k2, k3, k4, k5⟩ := hu
  have en : n' = n := Nat.eq_of_mul_eq_mul_right hs0 (by omega)
  have em : m' = m := Nat.eq_of_mul_eq_mul_right hs0 (by omega)
  subst en em
  -- what is appended, by cells
  have hrest : ∀ (w2 : World), w2.heap = w.heap → (Builtin.firstCells sz m' (.slice B m' c)).run P w2 = .ok ys.toArray w2 := by
    intro w2 hw
    rcases k5 with rfl | ⟨b, off, rfl, hc⟩
    · have : m' = 0 := by
        have h0 : m' * sz = 0 := k2.symm
        rcases Nat.mul_eq_zero.1 h0 with h0 | h0 <;> omega
      subst this
      rcases B with _ | a
      · exact run_firstCells_none w2 sz 0 0 c
      · exact run_firstCells_some w2 sz 0 a 0 c [] (by simp) (fun j v hj => by simp at hj)
    · refine run_firstCells_some w2 sz m' ⟨b, off, none⟩ m' c ys k2 (fun j v hj => ?_)
      rw [Addr.add_lit]
      have := hc j v hj
      unfold World.cell? at this ⊢
      rw [hw]
      exact this
  by_cases hroom : n' + m' ≤ cap
  · -- there is room
    by_cases hc0 : cap = 0
    · have e1 : n' = 0 := by omega
      have e2 : m' = 0 := by omega
      subst e1 e2 hc0
      have ex : xs = [] := List.eq_nil_of_length_eq_zero (by omega)
      have ey : ys = [] := List.eq_nil_of_length_eq_zero (by omega)
      subst ex ey
      have hf := hrest w rfl
      refine ⟨.slice A 0 0, w, ?_, ⟨A, 0, 0, rfl, by simp, by omega, by omega, .inl rfl⟩, Upd.refl _ w, fun k hk => .inl hk⟩
      cases A with
      | none => simp [Builtin.append_, run_underlying ht, sizeOf, typeInfo, hi, hsz, Builtin.lenOf, hf]
      | some a => simp [Builtin.append_, run_underlying ht, sizeOf, typeInfo, hi, hsz, Builtin.lenOf, hf, storeCells]
    · rcases h5 with h5 | ⟨b, off, rfl, hbb, hc, hr⟩
      · exact absurd h5 hc0
      · have hst := run_storeCells_cells (P := P) b (off + n' * sz) ys 0 w
          (fun j hj => by
            have := (hr (n' * sz + j) (by
              have : (n' + m') * sz ≤ cap * sz := Nat.mul_le_mul_right _ hroom
              rw [Nat.add_mul] at this
              omega)).1
            simpa [Nat.add_assoc] using this)
          (fun j hj => by
            have := (hr (n' * sz + j) (by
              have : (n' + m') * sz ≤ cap * sz := Nat.mul_le_mul_right _ hroom
              rw [Nat.add_mul] at this
              omega)).2
            simpa [Nat.add_assoc] using this) h1
        simp only [Nat.add_zero] at hst
        have hf := hrest w rfl
        have hin : ∀ j, j < ys.length → (w.cell? ⟨b, off + n' * sz + j, none⟩).isSome = true := fun j hj => by
          have := (hr (n' * sz + j) (by
            have : (n' + m') * sz ≤ cap * sz := Nat.mul_le_mul_right _ hroom
            rw [Nat.add_mul] at this
            omega)).1
          simpa [Nat.add_assoc] using this
        refine ⟨.slice (some ⟨b, off, none⟩) (n' + m') cap, w.setCells b (off + n' * sz) ys, ?_, ⟨_, _, cap, rfl, by rw [List.length_append, h2, k2, Nat.add_mul], hroom, h4, .inr ⟨b, off, rfl, hbb, ?_, ?_⟩⟩, ?_, ?_⟩
        · simp [Builtin.append_, run_underlying ht, sizeOf, typeInfo, hi, hsz, Builtin.lenOf, hroom, hf, Addr.add_lit, hst]
        · intro j u hj
          by_cases hlt : j < xs.length
          · rw [List.getElem?_append_left hlt] at hj
            rw [World.cell?_setCells_out b ys _ w ⟨b, off + j, none⟩ (fun _ _ => .inl (by simp; omega))]
            exact hc j u hj
          · rw [List.getElem?_append_right (by omega)] at hj
            have hj' : j - xs.length < ys.length := (List.getElem?_eq_some_iff.1 hj).1
            have := World.cell?_setCells_in b ys (off + n' * sz) w hin (j - xs.length) hj'
            rw [show off + j = off + n' * sz + (j - xs.length) by omega, this]
            rw [List.getElem?_eq_getElem hj'] at hj
            exact hj
        · intro j hj
          refine ⟨?_, by rw [World.frozen?_setCells]; exact (hr j hj).2⟩
          by_cases hb2 : off + n' * sz ≤ off + j ∧ off + j < off + n' * sz + ys.length
          · have := World.cell?_setCells_in b ys (off + n' * sz) w hin (j - n' * sz) (by omega)
            rw [show off + j = off + n' * sz + (j - n' * sz) by omega, this]
            rfl
          · rw [World.cell?_setCells_out b ys _ w ⟨b, off + j, none⟩ (fun _ _ => by simp; omega)]
            exact (hr j hj).1
        · exact (setCells_upd b ys _ w).mono fun k _ hk => by rw [hk, room_some _ _ _ _ hc0]
        · intro k hk
          rw [room_some _ _ _ _ (by omega)] at hk
          rw [room_some _ _ _ _ hc0]
          exact .inl hk
  · -- it grows
    have hg : cap < n' + m' := by omega
    have hge := grownCap_ge w (n' + m') cap e
    have hcm : grownCap w (n' + m') cap e ≤ maxLen := grownCap_le_maxLen w (n' + m') cap e (by simp only [maxLen]; omega)
    have hn' : ¬ (n' + m' ≤ cap) := by omega
    have h63' : ¬ (9223372036854775807 < ((n' : Int) + (m' : Int))) := by omega
    have hfit := growslice_fits_wide (bytes := bytes) hg hb
    have h48' : ¬ (281474976710656 < Builtin.nextslicecap (n' + m') cap * bytes) := by omega
    have hfo : (Builtin.firstCells sz n' (.slice A n' cap)).run P w.drew = .ok xs.toArray w.drew := by
      rcases h5 with rfl | ⟨b, off, rfl, hbb, hc, hr⟩
      · have e1 : n' = 0 := by omega
        subst e1
        have ex : xs = [] := List.eq_nil_of_length_eq_zero (by omega)
        subst ex
        rcases A with _ | a
        · exact run_firstCells_none w.drew sz 0 0 0
        · exact run_firstCells_some w.drew sz 0 a 0 0 [] (by simp) (fun j v hj => by simp at hj)
      · exact run_firstCells_some w.drew sz n' ⟨b, off, none⟩ n' cap xs h2 (fun j v hj => by rw [Addr.add_lit]; exact hc j v hj)
    have hf := hrest w.drew rfl
    have hlen : (xs ++ ys).length = (n' + m') * sz := by rw [List.length_append, h2, k2, Nat.add_mul]
    refine ⟨.slice (some ⟨w.heap.size, 0, none⟩) (n' + m') (grownCap w (n' + m') cap e), w.drew.alloc (.cells (xs.toArray ++ ys.toArray ++ Builtin.zeroCells z.cells (grownCap w (n' + m') cap e - (n' + m'))) e), ?_, ?_, ?_, ?_⟩
    · simp [Builtin.append_, run_underlying ht, sizeOf, typeInfo, zeroValue, hi, hz, hsz, hby, Builtin.lenOf, hn', h63', h48', Question.forced, hf, hfo, newRow, grownCap]
      rw [← Array.append_assoc]
      simp
    · refine (Own.of_row (e := e) ⟨hlen, .inr ⟨w.heap.size, _, _, rfl, hbase, heap_alloc_new w.drew _, hge, hcm, ?_, ?_⟩⟩).1
      · simp only [Array.size_append, List.size_toArray, size_zeroCells, hzs, h2, k2, ← Nat.add_mul]
        congr 1
        omega
      · simp only [Array.toList_append, List.append_assoc]
        rw [← List.append_assoc, ← hlen]
        exact List.take_left
    · exact ((Upd.refl _ w).drew).alloc _
    · intro k hk
      right
      by_cases hc0 : grownCap w (n' + m') cap e = 0
      · simp [room, hc0] at hk
      · rw [room_some _ _ _ _ hc0] at hk
        injection hk with hk
        omega

/-- append(v, u...) at its place in a walk. -/
theorem wpl_append {ops : Array Oper} {rest : List Oper} {o : Oper} {a : Act} {Q : Exit → Act → World → Prop} {w : World}
    (hg : o.guard = none) (s x : Operand) (t : TypeId) (hop : o.op = Op.call { callee := Callee.builtin Builtin.append, args := #[s, x], argTypes := #[t, t] })
    {e : TypeId} {i : TypeInfo} {z : Value} {sz bytes : Nat} (ht : P.underlying t = some (.slice e)) (hi : P.info? e = some i) (hz : i.zero = some z) (hsz : i.size = sz) (hby : i.bytes = bytes) (hzs : z.cells.size = sz) (hs0 : 0 < sz)
    {base : Nat} {xs ys : List Value} (hv : Own base w (a.eval s) sz xs) (hu : Rdr w (a.eval x) sz ys) (h1 : ∀ y ∈ ys, y.oneCell' = true) (hbase : base ≤ w.heap.size)
    (n m : Nat) (hn : xs.length = n * sz) (hm : ys.length = m * sz) (hb : ((n + m) + (n + m) / 4 + 192) * bytes ≤ 281474976710656) (hmax : n + m ≤ 9223372036854775807)
    (h : ∀ v' w', Own base w' v' sz (xs ++ ys) → Upd (fun k => room (a.eval s) = some k) w w' → (∀ k, room v' = some k → room (a.eval s) = some k ∨ w.heap.size ≤ k) → wpList P ops Q rest (a.put o.dst v') w') :
    wpList P ops Q (o :: rest) a w := by
  obtain ⟨v', w', hrun, r1, r2, r3⟩ := run_append (P := P) o.type ht hi hz hsz hby hzs hs0 hv hu h1 hbase n m hn hm hb hmax
  refine wpList_plain hg fun K hK' => ?_
  unfold Oper.wp
  simp [execOp, hop, resolve, invoke, builtin, hrun, Result.andThen]
  exact hK' _ _ (h v' w' r1 r2 r3)
end

/-! ### Bytes -/
/-- A byte as Go's number. -/
def B (b : UInt8) : Value := .int .u8 (b.toNat : Int)
theorem B_at (bs : List UInt8) (j : Nat) (h : j < bs.length) : (bs.map B)[j]? = some (.int .u8 (at8 bs j)) := by
  simp [B, at8, List.getD_eq_getElem?_getD, List.getElem?_eq_getElem h]
theorem B_get {bs : List UInt8} {j : Nat} {u : Value} (h : (bs.map B)[j]? = some u) : j < bs.length ∧ u = .int .u8 (at8 bs j) := by
  have hj : j < bs.length := by simpa using (List.getElem?_eq_some_iff.1 h).1
  exact ⟨hj, by rw [B_at bs j hj] at h; injection h with h; exact h.symm⟩
theorem B_one (bs : List UInt8) : ∀ y ∈ bs.map B, y.oneCell' = true := by
  intro y hy
  obtain ⟨b, _, rfl⟩ := List.mem_map.1 hy
  rfl
theorem Bs.rdr {w : World} {v : Value} {bs : List UInt8} (h : Bs w v bs) : Rdr w v 1 (bs.map B) := by
  obtain ⟨A, cap, rfl, h1, h2, h3⟩ := h
  refine ⟨A, bs.length, cap, rfl, by simp, h1, h2, ?_⟩
  rcases h3 with rfl | ⟨b, off, rfl, h3⟩
  · exact .inl rfl
  · refine .inr ⟨b, off, rfl, fun j u hj => ?_⟩
    obtain ⟨hj', rfl⟩ := B_get hj
    exact h3 j hj'
theorem Bs.of_rdr {w : World} {v : Value} {bs : List UInt8} (h : Rdr w v 1 (bs.map B)) : Bs w v bs := by
  obtain ⟨A, n, cap, rfl, h1, h2, h3, h4⟩ := h
  have hn : bs.length = n := by simpa using h1
  subst hn
  refine ⟨A, cap, rfl, h2, h3, ?_⟩
  rcases h4 with h4 | ⟨b, off, rfl, h4⟩
  · exact .inl (by simpa using h4)
  · exact .inr ⟨b, off, rfl, fun j hj => h4 j _ (B_at bs j hj)⟩
/-- A slice of new memory: it reads as bs, lies in a block from 'base' on, and all its room may be written. -/
def Fresh (base : Nat) (w : World) (v : Value) (bs : List UInt8) : Prop := Own base w v 1 (bs.map B)
theorem Fresh.bs {base : Nat} {w : World} {v : Value} {bs : List UInt8} (h : Fresh base w v bs) : Bs w v bs := Bs.of_rdr (Own.rdr h)
theorem Fresh.upd {base : Nat} {S : Nat → Prop} {w w' : World} {v : Value} {bs : List UInt8} (h : Fresh base w v bs) (hu : Upd S w w') (ho : Off S v) : Fresh base w' v bs := Own.upd h hu ho
theorem Fresh.same {base : Nat} {w w' : World} {v : Value} {bs : List UInt8} (h : Fresh base w v bs) (hu : Same w w') : Fresh base w' v bs := Own.same h hu
theorem Fresh.mono {base base' : Nat} {w : World} {v : Value} {bs : List UInt8} (h : Fresh base w v bs) (hb : base' ≤ base) : Fresh base' w v bs := Own.mono h hb
theorem Fresh.ge {base : Nat} {w : World} {v : Value} {bs : List UInt8} (h : Fresh base w v bs) : ∀ k, room v = some k → base ≤ k ∧ k < w.heap.size := Own.ge h (by decide)
theorem Fresh.nil (base : Nat) (w : World) : Fresh base w (.slice none 0 0) [] := Own.nil base w 1
/-- It lies in no block of S, since those are all below it. -/
theorem Fresh.off {base : Nat} {S : Nat → Prop} {w : World} {v : Value} {bs : List UInt8} (h : Fresh base w v bs) (hS : ∀ k, base ≤ k → ¬ S k) : Off S v := fun k hk => hS k (h.ge k hk).1

/-- Are two lists of bytes alike? (A Bool that the walk does not look into.) -/
def eqB (xs ys : List UInt8) : Bool := decide (xs = ys)
@[go_sem] theorem eqB_self (xs : List UInt8) : eqB xs xs = true := by simp [eqB]
theorem eqB_true {xs ys : List UInt8} (h : xs = ys) : eqB xs ys = true := by simp [eqB, h]
theorem eqB_false {xs ys : List UInt8} (h : xs ≠ ys) : eqB xs ys = false := by simp [eqB, h]
theorem addr_ne (b off : Nat) {k j : Nat} (h : k ≠ j) : (⟨b, off + k, none⟩ : Addr) ≠ ⟨b, off + j, none⟩ := by
  intro e
  injection e with _ e
  omega
/-- Where byte k of a row of the call's own lies; it may be written. -/
theorem Fresh.at_ {base : Nat} {w : World} {b off n cap : Nat} {xs : List UInt8} (h : Fresh base w (.slice (some ⟨b, off, none⟩) n cap) xs) (k : Nat) (hk : k < xs.length) :
    w.cell? ⟨b, off + k, none⟩ = some (.int .u8 (at8 xs k)) ∧ w.frozen? ⟨b, off + k, none⟩ = false := by
  obtain ⟨A, n', cap', e, h1, h2, h3, h4⟩ := h
  injection e with e1 e2 e3
  subst e2 e3
  have hn : xs.length = n := by simpa using h1
  rcases h4 with h4 | ⟨b', off', e1', hb, hc, hr⟩
  · omega
  · rw [e1'] at e1
    injection e1 with e1
    injection e1 with e1 e4
    subst e1 e4
    exact ⟨hc k _ (B_at xs k hk), (hr k (by omega)).2⟩
theorem Fresh.addr {base : Nat} {w : World} {A : Option Addr} {n cap : Nat} {xs : List UInt8} (h : Fresh base w (.slice A n cap) xs) (h0 : 0 < cap) : ∃ b off, A = some ⟨b, off, none⟩ := by
  obtain ⟨A', n', cap', e, h1, h2, h3, h4⟩ := h
  injection e with e1 e2 e3
  subst e1
  rcases h4 with h4 | ⟨b', off', e1', _⟩
  · omega
  · exact ⟨b', off', e1'⟩
/-- A byte of a row of the call's own is written. -/
theorem Fresh.set {base : Nat} {w : World} {b off n cap : Nat} {xs : List UInt8} (h : Fresh base w (.slice (some ⟨b, off, none⟩) n cap) xs) (k : Nat) (hk : k < xs.length) (c : UInt8) (x : Int) (hx : x = at8 [c] 0) :
    Fresh base (w.setCell ⟨b, off + k, none⟩ (.int .u8 x)) (.slice (some ⟨b, off, none⟩) n cap) (xs.set k c) ∧ Upd (fun i => i = b) w (w.setCell ⟨b, off + k, none⟩ (.int .u8 x)) ∧ base ≤ b := by
  subst hx
  obtain ⟨A, n', cap', e, h1, h2, h3, h4⟩ := h
  injection e with e1 e2 e3
  subst e2 e3
  have hn : xs.length = n := by simpa using h1
  rcases h4 with h4 | ⟨b', off', e1', hb, hc, hr⟩
  · omega
  · rw [e1'] at e1
    injection e1 with e1
    injection e1 with e1 e4
    subst e1 e4
    refine ⟨⟨_, n, cap, rfl, by simpa using h1, h2, h3, .inr ⟨b, off, rfl, hb, ?_, ?_⟩⟩, (Upd.refl (fun i => i = b) w).setCell (p := ⟨b, off + k, none⟩) (fun _ => rfl) _, hb⟩
    · intro j u hj
      obtain ⟨hj', rfl⟩ := B_get hj
      rw [List.length_set] at hj'
      by_cases hjk : j = k
      · subst hjk
        rw [World.cell?_setCell_same _ _ _ (hc j _ (B_at xs j hk))]
        simp [at8, List.getD_eq_getElem?_getD, hk]
      · rw [World.cell?_setCell_other _ _ _ _ (addr_ne b off (Ne.symm hjk)), hc j _ (B_at xs j hj')]
        simp [at8, List.getD_eq_getElem?_getD, List.getElem?_set, Ne.symm hjk]
    · intro j hj
      rw [World.frozen?_setCell]
      refine ⟨?_, (hr j hj).2⟩
      by_cases hjk : j = k
      · subst hjk
        rw [World.cell?_setCell_same _ _ _ (hc j _ (B_at xs j hk))]
        rfl
      · rw [World.cell?_setCell_other _ _ _ _ (addr_ne b off (Ne.symm hjk))]
        exact (hr j hj).1
theorem strB_toList (bs : List UInt8) : (strB bs).toList = bs := ByteArray.toList_mk bs
@[go_sem] theorem strB_eq (xs ys : List UInt8) : ((strB xs).toList == (strB ys).toList) = eqB xs ys := by
  rw [strB_toList, strB_toList]
  unfold eqB
  rw [Bool.eq_iff_iff]
  simp
theorem at8_one (c : Int) (h0 : 0 ≤ c) (h1 : c ≤ 255) : at8 [UInt8.ofNat c.toNat] 0 = c := by
  unfold at8
  simp
  omega
/-- The box of one byte that is appended. -/
theorem Bs.one (W : World) (c : Int) (t : TypeId) (g : Nat) (hg : g = W.heap.size) (h0 : 0 ≤ c) (h1 : c ≤ 255) : Bs (W.alloc (.cells #[.int .u8 c] t)) (.slice (some ⟨g, 0, none⟩) 1 1) [UInt8.ofNat c.toNat] :=
  Bs.lit W _ t (0, 0) _ g 1 1 hg (fun j hj => by
    have : j = 0 := by simpa using hj
    subst this
    rw [at8_one c h0 h1]
    rfl) rfl (by decide) (by decide)

section
variable {P : Program}
/-- append(v, u...), bytes. -/
theorem wpl_append_bytes {ops : Array Oper} {rest : List Oper} {o : Oper} {a : Act} {Q : Exit → Act → World → Prop} {w : World}
    (hg : o.guard = none) (s x : Operand) (t : TypeId) (hop : o.op = Op.call { callee := Callee.builtin Builtin.append, args := #[s, x], argTypes := #[t, t] })
    {e : TypeId} (ht : P.underlying t = some (.slice e)) (hinfo : (P.info? e).map (fun i => (i.zero, i.size, i.bytes)) = some (some (.int .u8 0), 1, 1))
    (base : Nat) (v u : Value) (xs ys zs : List UInt8) (hzs : xs ++ ys = zs) (hvs : a.eval s = v) (hux : a.eval x = u)
    (hv : Fresh base w v xs) (hu : Bs w u ys) (hbase : base ≤ w.heap.size) (hb : xs.length + ys.length ≤ 200000000000000)
    (h : ∀ v' w', Fresh base w' v' zs → Upd (fun k => room v = some k) w w' → (∀ k, room v' = some k → room v = some k ∨ w.heap.size ≤ k) → wpList P ops Q rest (a.put o.dst v') w') :
    wpList P ops Q (o :: rest) a w := by
  subst hvs
  subst hux
  subst hzs
  obtain ⟨i, hi, hzz⟩ := Option.map_eq_some_iff.1 hinfo
  simp only [Prod.mk.injEq] at hzz
  obtain ⟨hz0, hz1, hz2⟩ := hzz
  refine wpl_append (P := P) hg s x t hop ht hi hz0 hz1 hz2 rfl (by decide) hv hu.rdr (B_one ys) hbase xs.length ys.length (by simp) (by simp) (by omega) (by omega) ?_
  intro v' w' r1 r2 r3
  exact h v' w' (by unfold Fresh; rw [List.map_append]; exact r1) r2 r3
/-- append(v, u...), bytes, as one step of a region that draws its order. -/
theorem step_append_bytes {ops : Array Oper} {o : Oper} {a : Act} {w : World} {K : Act → World → Prop} {Q : Exit → Act → World → Prop} {E : Prop}
    (hg : o.guard = none) (s x : Operand) (t : TypeId) (hop : o.op = Op.call { callee := Callee.builtin Builtin.append, args := #[s, x], argTypes := #[t, t] })
    {e : TypeId} (ht : P.underlying t = some (.slice e)) (hinfo : (P.info? e).map (fun i => (i.zero, i.size, i.bytes)) = some (some (.int .u8 0), 1, 1))
    (base : Nat) (v u : Value) (xs ys zs : List UInt8) (hzs : xs ++ ys = zs) (hvs : a.eval s = v) (hux : a.eval x = u)
    (hv : Fresh base w v xs) (hu : Bs w u ys) (hbase : base ≤ w.heap.size) (hb : xs.length + ys.length ≤ 200000000000000)
    (h : ∀ v' w', Fresh base w' v' zs → Upd (fun k => room v = some k) w w' → (∀ k, room v' = some k → room v = some k ∨ w.heap.size ≤ k) → K (a.put o.dst v') w') :
    if Region.wanted o (yielded ops a.tmps) = true then Oper.wp P o a w K Q else E := by
  have hw : Region.wanted o (yielded ops a.tmps) = true := by simp [Region.wanted, hg]
  rw [if_pos hw]
  obtain ⟨i, hi, hzz⟩ := Option.map_eq_some_iff.1 hinfo
  simp only [Prod.mk.injEq] at hzz
  obtain ⟨hz0, hz1, hz2⟩ := hzz
  subst hvs
  subst hux
  subst hzs
  obtain ⟨v', w', hrun, r1, r2, r3⟩ := run_append (P := P) o.type ht hi hz0 hz1 hz2 rfl (by decide) hv hu.rdr (B_one ys) hbase xs.length ys.length (by simp) (by simp) (by omega) (by omega)
  unfold Oper.wp
  simp [execOp, hop, resolve, invoke, builtin, hrun, Result.andThen]
  exact h v' w' (by unfold Fresh; rw [List.map_append]; exact r1) r2 r3
end
/-- Writes into a row of the call's own leave what was there when the call began. -/
theorem Same.row {w w2 w3 : World} {v : Value} {xs : List UInt8} (hs : Same w w2) (hf : Fresh w.heap.size w2 v xs) (hu : Upd (fun k => room v = some k) w2 w3) : Same w w3 :=
  ⟨hu.os.trans hs.os, hu.tape.trans hs.tape, hu.output.trans hs.output, Nat.le_trans hs.size hu.size,
    fun k hk _ => (hu.block k (Nat.lt_of_lt_of_le hk hs.size) fun e => by have := (hf.ge k e).1; omega).trans (hs.block k hk id)⟩
/-- Writes into blocks of the call's own leave what was there when the call began. -/
theorem Same.into {S : Nat → Prop} {w w2 w3 : World} (hs : Same w w2) (hu : Upd S w2 w3) (hS : ∀ k, S k → w.heap.size ≤ k) : Same w w3 :=
  ⟨hu.os.trans hs.os, hu.tape.trans hs.tape, hu.output.trans hs.output, Nat.le_trans hs.size hu.size,
    fun k hk _ => (hu.block k (Nat.lt_of_lt_of_le hk hs.size) fun e => by have := hS k e; omega).trans (hs.block k hk id)⟩
end
section
open Go.ChangeShapes Go.WideShapes Go.ChangeAt Go.RowKit

section
variable {H : Type} {enc : TypeId × Value → H} {P : Program} {W : World} {base : Nat}

/-- Each weight of an argument's reading is within the reach. -/
theorem sized_each {ts : List TypeId} {ds : List (DataW H)} (h : (DataW.weightsEach P ts ds).all (· ≤ reachBytes) = true) {j : Nat} {t : TypeId} {d : DataW H} (ht : ts[j]? = some t) (hd : ds[j]? = some d) : ∀ n ∈ d.weights P t, n ≤ 140737488351232 := by
  intro n hn
  have := List.all_eq_true.1 h n (DataW.weights_mem_each ht hd n hn)
  have e : reachBytes = 140737488351232 := by decide
  rw [e] at this
  simpa using this

/-- A slice of bytes that came in. -/
theorem open_bytes {t e : TypeId} (ht : P.underlying t = some (.slice e)) (he : P.underlying e = some (.int .u8)) (hc : P.cellsOf e = 1) (hb : P.bytesOf e = 1) {v : Value} {d : DataW H} {p : List MemPlace} {sp : Nat → Bool} {hl : Bool} {b0 : Nat}
    (hok : ∃ a len cap, v = .slice a len cap) (h : DataW.Trod enc P W b0 sp hl t v d p) (hz : ∀ n ∈ d.weights P t, n ≤ 140737488351232) : ∃ bs, Bs W v bs ∧ bs.length ≤ 140737488351232 := by
  obtain ⟨a, len, cap, rfl⟩ := hok
  obtain ⟨fuel, hf⟩ := h
  rcases open_ints ht he hc hf with ⟨hcs, _⟩ | ⟨x, l, c, zs, hcs, _, hlc, hm, hzl, hx, hcell, hwz⟩
  · simp [Value.cells] at hcs
    obtain ⟨rfl, rfl, rfl⟩ := hcs
    exact ⟨[], Bs.nil W, by simp⟩
  · simp [Value.cells] at hcs
    obtain ⟨rfl, rfl, rfl⟩ := hcs
    have hll : len ≤ zs.length := by rw [hzl]; split <;> omega
    have hlen : ((zs.take len).map fun z => UInt8.ofNat z.toNat).length = len := by simp; omega
    have hmm : cap ≤ 9223372036854775807 := by simpa [maxLen] using hm
    refine ⟨(zs.take len).map fun z => UInt8.ofNat z.toNat, ⟨some x, cap, by rw [hlen], by omega, hmm, ?_⟩, ?_⟩
    · by_cases h0 : len = 0
      · subst h0; exact .inl (by simp)
      · right
        obtain ⟨b, off, spot⟩ := x
        have hc0 := hcell 0 (by omega)
        have hspot : spot = none := by simpa [Addr.add] using World.cell?_spot hc0
        subst hspot
        refine ⟨b, off, rfl, fun j hj => ?_⟩
        rw [hlen] at hj
        have hcj := hcell j (by omega)
        rw [Addr.add_lit] at hcj
        rw [hcj]
        have hjz : j < zs.length := by omega
        have hw := hwz (zs[j]) (List.getElem_mem hjz)
        have hbd := bounds_u8 hw
        have : at8 ((zs.take len).map fun z => UInt8.ofNat z.toNat) j = zs.getD j 0 := by
          unfold at8
          simp [List.getD_eq_getElem?_getD, hj, hjz]
          omega
        rw [this]
    · rw [hlen]
      have hxd : d = .slice (lits .u8 (zs.take len)) (lits .u8 (zs.drop len)) := by
        have := congrArg Prod.fst hx
        simpa using this
      subst hxd
      have := hz ((zs.take len).length * 1 + (zs.drop len).length * 1) (by simp [DataW.weights, ht, hb, lits])
      simp at this
      omega
end
end
section
open Go.RowKit
set_option linter.unusedVariables false
set_option linter.unusedSimpArgs false

/-- The blocks of F are there, from block base on. -/
def Foot (base : Nat) (F : Nat → Prop) (w : World) : Prop := ∀ k, F k → base ≤ k ∧ k < w.heap.size
/-- Behind a doing of an object that lay in F: it lies in F' now, and nothing else was written. -/
def Step (F F' : Nat → Prop) (w w' : World) : Prop := Upd F w w' ∧ ∀ k, F' k → F k ∨ w.heap.size ≤ k
theorem Step.refl (F : Nat → Prop) (w : World) : Step F F w w := ⟨Upd.refl F w, fun k h => .inl h⟩
theorem Step.trans {F G H : Nat → Prop} {a b c : World} (h : Step F G a b) (k : Step G H b c) : Step F H a c :=
  ⟨h.1.trans k.1 fun i hi hg => (h.2 i hg).elim id fun e => by omega, fun i hi => (k.2 i hi).elim (fun e => h.2 i e) fun e => .inr (Nat.le_trans h.1.size e)⟩
theorem Step.same {F : Nat → Prop} {a b : World} (h : Same a b) : Step F F a b := ⟨h.mono fun _ _ h => h.elim, fun k h => .inl h⟩
theorem Step.upd {F : Nat → Prop} {a b : World} (h : Upd F a b) : Step F F a b := ⟨h, fun k h => .inl h⟩
theorem Foot.mono {base : Nat} {F : Nat → Prop} {a b : World} (h : Foot base F a) (hs : a.heap.size ≤ b.heap.size) : Foot base F b := fun k hk => ⟨(h k hk).1, Nat.lt_of_lt_of_le (h k hk).2 hs⟩
/-- Two objects that lie apart stay apart. -/
theorem Step.apart {base : Nat} {F F' G : Nat → Prop} {a b : World} (h : Step F F' a b) (hG : Foot base G a) (hd : ∀ k, F k → ¬ G k) : ∀ k, F' k → ¬ G k := by
  intro k hk hg
  rcases h.2 k hk with e | e
  · exact hd k e hg
  · have := (hG k hg).2
    omega
/-- What the doings of an object of the call's own leave of what was there. -/
theorem Step.keeps {F F' : Nat → Prop} {w a b : World} (h : Step F F' a b) (hs : Same w a) (hF : Foot w.heap.size F a) : Same w b := Same.into hs h.1 fun k hk => (hF k hk).1
/-- The blocks that an object may have taken. -/
def more (F : Nat → Prop) (a b : World) : Nat → Prop := fun k => F k ∨ (a.heap.size ≤ k ∧ k < b.heap.size)
theorem more_step {F : Nat → Prop} {a b : World} (h : Upd F a b) : Step F (more F a b) a b := ⟨h, fun k hk => hk.elim .inl fun e => .inr e.1⟩
theorem more_foot {base : Nat} {F : Nat → Prop} {a b : World} (h : Foot base F a) (hb : base ≤ a.heap.size) (hs : a.heap.size ≤ b.heap.size) : Foot base (more F a b) b := by
  rintro k (hk | hk)
  · exact ⟨(h k hk).1, Nat.lt_of_lt_of_le (h k hk).2 hs⟩
  · omega

/-- A row's elements from number k on. -/
theorem Own.back {base : Nat} {w : World} {A : Option Addr} {n cap sz : Nat} {cs : List Value} (h : Own base w (.slice A n cap) sz cs) (k : Nat) (hk : k ≤ n) :
    Own base w (.slice (if cap = k then A else A.map (·.add (k * sz))) (n - k) (cap - k)) sz (cs.drop (k * sz)) := by
  obtain ⟨A', n', cap', e, h1, h2, h3, h4⟩ := h
  injection e with e1 e2 e3
  subst e1 e2 e3
  refine ⟨_, _, _, rfl, by rw [List.length_drop, h1, Nat.sub_mul], by omega, by omega, ?_⟩
  rcases h4 with rfl | ⟨b, off, rfl, hb, hc, hr⟩
  · exact .inl (by omega)
  · by_cases hck : cap = k
    · exact .inl (by omega)
    · rw [if_neg hck]
      simp only [Option.map_some, Addr.add_lit]
      refine .inr ⟨b, off + k * sz, rfl, hb, fun j u hj => ?_, fun j hj => ?_⟩
      · rw [List.getElem?_drop] at hj
        rw [Nat.add_assoc]
        exact hc _ u hj
      · rw [Nat.add_assoc]
        refine hr _ ?_
        rw [Nat.sub_mul] at hj
        omega
theorem room_back (A : Option Addr) (n m cap k sz : Nat) : ∀ j, room (.slice (if cap = k then A else A.map (·.add (k * sz))) m (cap - k)) = some j → room (.slice A n cap) = some j := by
  intro j hj
  cases A with
  | none => simp [room] at hj
  | some a =>
    by_cases hck : cap = k
    · simp [room, hck] at hj
    · rw [if_neg hck] at hj
      simp only [Option.map_some, room] at hj ⊢
      by_cases h0 : cap - k = 0
      · simp [h0] at hj
      · rw [if_neg h0] at hj
        rw [if_neg (by omega)]
        have e : (a.add (k * sz)).block = a.block := by unfold Addr.add; split <;> rfl
        rw [e] at hj
        exact hj
/-- A box of known cells reads as one element. -/
theorem Rdr.box (W : World) (cs : List Value) (t : TypeId) (fr : Nat × Nat) (g : Nat) (hg : g = W.heap.size) (sz : Nat) (hs : cs.length = sz) : Rdr (W.alloc (.cells cs.toArray t fr)) (.slice (some ⟨g, 0, none⟩) 1 1) sz cs := by
  subst hg
  have h : (W.alloc (.cells cs.toArray t fr)).heap[W.heap.size]? = some (.cells cs.toArray t fr) := heap_alloc_new W _
  refine ⟨_, 1, 1, rfl, by omega, by omega, by omega, .inr ⟨_, _, rfl, fun j u hj => ?_⟩⟩
  unfold World.cell?
  rw [h]
  simpa using hj
theorem Own.open_ {base : Nat} {w : World} {v : Value} {sz : Nat} {cs : List Value} (h : Own base w v sz cs) : ∃ A n cap, v = .slice A n cap ∧ cs.length = n * sz ∧ n ≤ cap ∧ cap ≤ 9223372036854775807 := by
  obtain ⟨A, n, cap, rfl, h1, h2, h3, _⟩ := h
  exact ⟨A, n, cap, rfl, h1, h2, h3⟩
/-- Where the cells of element k lie. -/
theorem Own.at_ {base : Nat} {w : World} {A : Option Addr} {n cap sz : Nat} {cs : List Value} (h : Own base w (.slice A n cap) sz cs) (hs : 0 < cs.length) : ∃ b off, A = some ⟨b, off, none⟩ ∧ ∀ j u, cs[j]? = some u → w.cell? ⟨b, off + j, none⟩ = some u := by
  obtain ⟨A', n', cap', e, h1, h2, h3, h4⟩ := h
  injection e with e1 e2 e3
  subst e1 e2 e3
  rcases h4 with rfl | ⟨b, off, rfl, hb, hc, hr⟩
  · have : n = 0 := by omega
    subst this
    simp at h1
    subst h1
    simp at hs
  · exact ⟨b, off, rfl, hc⟩
section
variable {P : Program}
/-- append(v, u...), v of the call's own, at its place in a walk: elements of sz cells. -/
theorem wpl_append_own {ops : Array Oper} {rest : List Oper} {o : Oper} {a : Act} {Q : Exit → Act → World → Prop} {w : World}
    (hg : o.guard = none) (s x : Operand) (t : TypeId) (hop : o.op = Op.call { callee := Callee.builtin Builtin.append, args := #[s, x], argTypes := #[t, t] })
    {e : TypeId} {z : Value} {sz bytes : Nat} (ht : P.underlying t = some (.slice e)) (hinfo : (P.info? e).map (fun i => (i.zero, i.size, i.bytes)) = some (some z, sz, bytes)) (hzs : z.cells.size = sz) (hs0 : 0 < sz)
    {base : Nat} (v u : Value) {xs ys : List Value} (hvs : a.eval s = v) (hux : a.eval x = u)
    (hv : Own base w v sz xs) (hu : Rdr w u sz ys) (h1 : ∀ y ∈ ys, y.oneCell' = true) (hbase : base ≤ w.heap.size)
    (n m : Nat) (hn : xs.length = n * sz) (hm : ys.length = m * sz) (hb : ((n + m) + (n + m) / 4 + 192) * bytes ≤ 281474976710656) (hmax : n + m ≤ 9223372036854775807)
    (h : ∀ v' w', Own base w' v' sz (xs ++ ys) → Upd (fun k => room v = some k) w w' → (∀ k, room v' = some k → room v = some k ∨ w.heap.size ≤ k) → wpList P ops Q rest (a.put o.dst v') w') :
    wpList P ops Q (o :: rest) a w := by
  subst hvs
  subst hux
  obtain ⟨i, hi, hzz⟩ := Option.map_eq_some_iff.1 hinfo
  simp only [Prod.mk.injEq] at hzz
  obtain ⟨hz0, hz1, hz2⟩ := hzz
  exact wpl_append (P := P) hg s x t hop ht hi hz0 hz1 hz2 hzs hs0 hv hu h1 hbase n m hn hm hb hmax h
end
end
section
open Go.ChangeShapes Go.WideShapes Go.ChangeAt Go.RowKit
set_option linter.unusedVariables false
set_option linter.unusedSimpArgs false

section
variable {H : Type} {enc : TypeId × Value → H} {W : World}
theorem mem_weightsAll {P : Program} {e : TypeId} {n : Nat} : ∀ {ds : List (DataW H)} {d : DataW H}, d ∈ ds → n ∈ d.weights P e → n ∈ DataW.weightsAll P e ds
  | x :: r, d, hd, hn => by
    unfold DataW.weightsAll
    rcases List.mem_cons.1 hd with rfl | hd
    · exact List.mem_append.2 (.inl hn)
    · exact List.mem_append.2 (.inr (mem_weightsAll hd hn))
/-- A row of structs: v is a slice; each element's cells are there and read by the struct's type; no datum in it is longer than the row's own reach. -/
theorem open_structs {P : Program} {t e : TypeId} {fs : Array Field} {sz : Nat} (ht : P.underlying t = some (.slice e)) (he : P.underlying e = some (.struct fs)) (hc : P.cellsOf e = sz) (h0 : 0 < sz)
    {v : Value} {d : DataW H} {p : List MemPlace} (hok : ∃ a len cap, v = .slice a len cap) (h : DataW.Trod enc P W 0 (fun _ => true) true t v d p) (hz : ∀ n ∈ d.weights P t, n ≤ 140737488351232) :
    ∃ A len cap, v = .slice A len cap ∧ len ≤ cap ∧ cap ≤ 9223372036854775807 ∧
      ∀ i, i < len → ∃ (b off : Nat) (cs : List Value) (k : Nat) (xs : List (DataW H × List MemPlace)), A = some ⟨b, off, none⟩ ∧ cs.length = sz ∧ (∀ j, j < sz → W.cell? ⟨b, off + i * sz + j, none⟩ = cs[j]?) ∧
        (∀ (j : Nat) (f : Field), fs[j]? = some f → ∃ y : DataW H × List MemPlace, xs[j]? = some y ∧ DataW.trod enc P W 0 (fun _ => true) true k f.type ((cs.drop f.offset).take (P.cellsOf f.type)) = some y) ∧
        (∀ n ∈ DataW.weightsEach P (fs.toList.map (·.type)) (xs.map (·.1)), n ≤ 140737488351232) := by
  obtain ⟨a, len, cap, rfl⟩ := hok
  obtain ⟨fuel, hf⟩ := h
  rcases Go.Deep.open_slice ht hf with ⟨hcs, _⟩ | ⟨a', l, c, m, n, D, Pl, hcs, _, hlc, hm, hmm, hx, hel⟩
  · simp [Value.cells] at hcs
    obtain ⟨rfl, rfl, rfl⟩ := hcs
    exact ⟨none, 0, 0, rfl, Nat.le_refl _, by omega, fun i hi => by omega⟩
  · simp [Value.cells] at hcs
    obtain ⟨rfl, rfl, rfl⟩ := hcs
    have hmc : m = cap := by simpa using hmm
    refine ⟨_, _, _, rfl, hlc, by simpa [maxLen] using hm, fun i hi => ?_⟩
    obtain ⟨b, off, rfl⟩ : ∃ b off, a' = ⟨b, off, none⟩ := by
      obtain ⟨b, off, spot⟩ := a'
      obtain ⟨cs0, h1, _⟩ := hel 0 (by omega)
      rw [hc] at h1
      obtain ⟨_, hlen, hcell⟩ := World.cells?_some h1
      have hc0 := hcell 0 h0
      rw [List.getElem?_eq_getElem (by omega)] at hc0
      have hspot : spot = none := by simpa [Addr.add] using World.cell?_spot hc0
      exact ⟨b, off, by rw [hspot]⟩
    obtain ⟨cs', h1, h2⟩ := hel i (by omega)
    rw [hc] at h1
    obtain ⟨_, hlen, hcell⟩ := World.cells?_some h1
    obtain ⟨xs, k, hk, hxy, _, hxl, hff⟩ := DataW.trod_struct he h2
    refine ⟨b, off, cs', k, xs, rfl, hlen, fun j hj => ?_, fun j f hj => ?_, fun q hq => ?_⟩
    · have := hcell j hj
      rwa [Addr.add_lit, Addr.add_lit] at this
    · have hj' : j < xs.length := by have := (Array.getElem?_eq_some_iff.1 hj).1; omega
      exact ⟨_, List.getElem?_eq_getElem hj', by rw [hff j f hj, List.getElem?_eq_getElem hj']⟩
    · have hd : d = .slice ((List.range len).map D) ((List.range (m - len)).map fun j => D (len + j)) := by
        have := congrArg Prod.fst hx
        simpa using this
      have hDi : D i = .agg (xs.map (·.1)) := by
        have := congrArg Prod.fst hxy
        simpa using this
      subst hd
      refine hz q ?_
      unfold DataW.weights
      rw [ht]
      refine List.mem_cons.2 (.inr (List.mem_append.2 (.inl (mem_weightsAll (List.mem_map.2 ⟨i, List.mem_range.2 hi, rfl⟩) ?_))))
      rw [hDi]
      unfold DataW.weights
      rw [he]
      exact hq
end
theorem choose_list {α : Type} {Q : Nat → α → Prop} : ∀ (n : Nat), (∀ i, i < n → ∃ x, Q i x) → ∃ xs : List α, xs.length = n ∧ ∀ i (h : i < xs.length), Q i (xs[i]'h)
  | 0, _ => ⟨[], rfl, fun i h => by simp at h⟩
  | n + 1, h => by
    obtain ⟨xs, hl, hx⟩ := choose_list n fun i hi => h i (by omega)
    obtain ⟨x, hq⟩ := h n (by omega)
    refine ⟨xs ++ [x], by simp [hl], fun i hi => ?_⟩
    by_cases hin : i < xs.length
    · rw [List.getElem_append_left hin]
      exact hx i hin
    · have : i = n := by simp at hi; omega
      subst this
      rw [List.getElem_append_right (by omega)]
      simpa [hl] using hq
section
variable {H : Type} {enc : TypeId × Value → H} {W : World}
theorem one_cell {cs : List Value} {sz j : Nat} (h : cs.length = sz) (hj : j < sz) : ∃ u, cs[j]? = some u ∧ (cs.drop j).take 1 = [u] := by
  refine ⟨cs[j], List.getElem?_eq_getElem (by omega), ?_⟩
  rw [List.drop_eq_getElem_cons (by omega)]
  rfl
end
end
section
open Go.ChangeShapes Go.WideShapes Go.ChangeAt Go.RowKit
set_option linter.unusedVariables false
set_option linter.unusedSimpArgs false
section
variable {H : Type} {enc : TypeId × Value → H} {W : World}
theorem open_structv {P : Program} {t : TypeId} {fs : Array Field} {sz base : Nat} (ht : P.underlying t = some (.struct fs)) (hc : P.cellsOf t = sz)
    {v : Value} {d : DataW H} {p : List MemPlace} (hv : Value.okWide P W .any base t v) (h : DataW.Trod enc P W 0 (fun _ => true) true t v d p) (hz : ∀ n ∈ d.weights P t, n ≤ 140737488351232) :
    ∃ (cs : List Value) (k : Nat) (xs : List (DataW H × List MemPlace)), v = .agg cs.toArray ∧ cs.length = sz ∧
      (∀ (j : Nat) (f : Field), fs[j]? = some f → ∃ y : DataW H × List MemPlace, xs[j]? = some y ∧ DataW.trod enc P W 0 (fun _ => true) true k f.type ((cs.drop f.offset).take (P.cellsOf f.type)) = some y) ∧
      (∀ n ∈ DataW.weightsEach P (fs.toList.map (·.type)) (xs.map (·.1)), n ≤ 140737488351232) := by
  obtain ⟨cs, rfl, hsz⟩ := okWide_struct ht hv
  obtain ⟨fuel, hf⟩ := h
  have hf' : DataW.trod enc P W 0 (fun _ => true) true fuel t cs.toList = some (d, p) := by simpa [Value.cells] using hf
  obtain ⟨xs, k, hk, hxy, _, hxl, hff⟩ := DataW.trod_struct ht hf'
  refine ⟨cs.toList, k, xs, by simp, by simpa [hc] using hsz, fun j f hj => ?_, fun q hq => ?_⟩
  · have hj' : j < xs.length := by have := (Array.getElem?_eq_some_iff.1 hj).1; omega
    exact ⟨_, List.getElem?_eq_getElem hj', by rw [hff j f hj, List.getElem?_eq_getElem hj']⟩
  · have hd : d = .agg (xs.map (·.1)) := by
      have := congrArg Prod.fst hxy
      simpa using this
    subst hd
    refine hz q ?_
    unfold DataW.weights
    rw [ht]
    exact hq
end
end
section
open Go.ChangeShapes Go.WideShapes Go.ChangeAt Go.RowKit
set_option linter.unusedVariables false
set_option linter.unusedSimpArgs false

/-- A row of numbers that came in. -/
def NumsAt (w : World) (v : Value) (zs : List Int) : Prop :=
  ∃ A cap, v = .slice A zs.length cap ∧ zs.length ≤ cap ∧ cap ≤ 9223372036854775807 ∧
    ∀ i, i < zs.length → ∃ b off, A = some ⟨b, off, none⟩ ∧ w.cell? ⟨b, off + i, none⟩ = some (.int .i64 (zs.getD i 0)) ∧ (-9223372036854775808 ≤ zs.getD i 0 ∧ zs.getD i 0 ≤ 9223372036854775807)
theorem NumsAt.same {w w' : World} {v : Value} {zs : List Int} (h : NumsAt w v zs) (hs : Same w w') : NumsAt w' v zs := by
  obtain ⟨A, cap, rfl, h1, h2, h3⟩ := h
  refine ⟨A, cap, rfl, h1, h2, fun i hi => ?_⟩
  obtain ⟨b, off, e, c, r⟩ := h3 i hi
  exact ⟨b, off, e, hs.cell c id, r⟩
section
variable {H : Type} {enc : TypeId × Value → H} {P : Program} {W : World} {base : Nat}
theorem open_nums {t e : TypeId} (ht : P.underlying t = some (.slice e)) (he : P.underlying e = some (.int .i64)) (hc : P.cellsOf e = 1) {v : Value} {d : DataW H} {p : List MemPlace} {sp : Nat → Bool} {hl : Bool} {b0 : Nat}
    (hok : ∃ a len cap, v = .slice a len cap) (h : DataW.Trod enc P W b0 sp hl t v d p) : ∃ zs, NumsAt W v zs := by
  obtain ⟨a, len, cap, rfl⟩ := hok
  obtain ⟨fuel, hf⟩ := h
  rcases open_ints ht he hc hf with ⟨hcs, _⟩ | ⟨x, l, c, zs, hcs, _, hlc, hm, hzl, hx, hcell, hwz⟩
  · simp [Value.cells] at hcs
    obtain ⟨rfl, rfl, rfl⟩ := hcs
    exact ⟨[], none, 0, rfl, Nat.le_refl _, by omega, fun i hi => by simp at hi⟩
  · simp [Value.cells] at hcs
    obtain ⟨rfl, rfl, rfl⟩ := hcs
    have hll : len ≤ zs.length := by rw [hzl]; split <;> omega
    have hlen : (zs.take len).length = len := by simp; omega
    have hmm : cap ≤ 9223372036854775807 := by simpa [maxLen] using hm
    refine ⟨zs.take len, some x, cap, by rw [hlen], by omega, hmm, fun i hi => ?_⟩
    rw [hlen] at hi
    obtain ⟨b, off, spot⟩ := x
    have hc0 := hcell 0 (by omega)
    have hspot : spot = none := by simpa [Addr.add] using World.cell?_spot hc0
    subst hspot
    have hcj := hcell i (by omega)
    rw [Addr.add_lit] at hcj
    have hz : (zs.take len).getD i 0 = zs.getD i 0 := by simp [List.getD_eq_getElem?_getD, hi]
    have hiz : i < zs.length := by omega
    have hw := hwz (zs[i]) (List.getElem_mem hiz)
    have hbd := bounds_i64 hw
    refine ⟨b, off, rfl, by rw [hz]; exact hcj, ?_⟩
    rw [hz, List.getD_eq_getElem?_getD, List.getElem?_eq_getElem hiz]
    exact hbd
end
section
variable {H : Type} {enc : TypeId × Value → H} {W : World}
set_option maxRecDepth 100000 in
theorem openInts {base : Nat} {v : Value} {d : DataW H} {p : List MemPlace} (hv : Value.okWide Try.prog W .any base 43 v) (h : DataW.Trod enc Try.prog W 0 (fun _ => true) true 43 v d p) (hz : ∀ n ∈ d.weights Try.prog 43, n ≤ 140737488351232) : ∃ zs, NumsAt W v zs :=
  open_nums (P := Try.prog) (e := 3) Try.underlying43 Try.underlying3 (show Try.prog.cellsOf 3 = 1 by kernel_rfl) (okWide_slice Try.underlying43 hv) h
end
end
section
open Go.RowKit
set_option linter.unusedVariables false
set_option linter.unusedSimpArgs false

theorem li5 : (Try.prog.info? 5).map (fun i => (i.zero, i.size, i.bytes)) = some (some (.int .u8 0), 1, 1) := by kernel_rfl
/-- Bytes of the call's own with the mark behind them. -/
def Lentd (base : Nat) (w : World) (v : Value) (bs : List UInt8) : Prop :=
  ∃ b off cap, v = .slice (some ⟨b, off, none⟩) bs.length cap ∧ Fresh base w (.slice (some ⟨b, off, none⟩) (bs.length + 1) cap) (bs ++ [167])
theorem Lentd.cap {base : Nat} {w : World} {A : Option Addr} {n cap : Nat} {xs : List UInt8} (h : Fresh base w (.slice A n cap) xs) : n ≤ cap ∧ cap ≤ 9223372036854775807 ∧ xs.length = n := by
  obtain ⟨A', n', cap', e, h1, h2, h3, h4⟩ := h
  injection e with e1 e2 e3
  subst e2 e3
  exact ⟨h2, h3, by simpa using h1⟩
theorem Lentd.fresh {base : Nat} {w : World} {v : Value} {bs : List UInt8} (h : Lentd base w v bs) : Fresh base w v bs := by
  obtain ⟨b, off, cap, rfl, hf⟩ := h
  obtain ⟨A', n', cap', e, h1, h2, h3, h4⟩ := hf
  injection e with e1 e2 e3
  subst e2 e3
  refine ⟨_, _, _, rfl, by simp, by omega, h3, ?_⟩
  rcases h4 with h4 | ⟨b', off', e1', hb, hc, hr⟩
  · omega
  · rw [← e1] at e1'
    injection e1' with e1'
    injection e1' with e1' e4
    subst e1' e4
    refine .inr ⟨_, _, rfl, hb, fun j u hj => hc j u ?_, hr⟩
    rw [List.map_append, List.getElem?_append_left (by have := (List.getElem?_eq_some_iff.1 hj).1; exact this)]
    exact hj
theorem Lentd.bs {base : Nat} {w : World} {v : Value} {bs : List UInt8} (h : Lentd base w v bs) : Bs w v bs := h.fresh.bs
theorem Lentd.upd {base : Nat} {S : Nat → Prop} {w w' : World} {v : Value} {bs : List UInt8} (h : Lentd base w v bs) (hu : Upd S w w') (ho : Off S v) : Lentd base w' v bs := by
  obtain ⟨b, off, cap, rfl, hf⟩ := h
  refine ⟨b, off, cap, rfl, hf.upd hu ?_⟩
  intro k hk
  exact ho k hk
theorem Lentd.same {base : Nat} {w w' : World} {v : Value} {bs : List UInt8} (h : Lentd base w v bs) (hu : Same w w') : Lentd base w' v bs := h.upd hu (Off.false v)
theorem Lentd.room {base : Nat} {w : World} {v : Value} {bs : List UInt8} (h : Lentd base w v bs) : ∀ k, room v = some k → base ≤ k ∧ k < w.heap.size := h.fresh.ge
theorem Fresh.open_ {base : Nat} {w : World} {v : Value} {xs : List UInt8} {y : UInt8} (h : Fresh base w v (xs ++ [y])) : ∃ b off cap, v = .slice (some ⟨b, off, none⟩) (xs.length + 1) cap := by
  obtain ⟨A, n', cap', rfl, h1, h2, h3, h4⟩ := h
  have hn : xs.length + 1 = n' := by simpa using h1
  rcases h4 with h4 | ⟨b', off', e1', hb, hc, hr⟩
  · omega
  · exact ⟨b', off', cap', by rw [e1', hn]⟩
/-- Lent. -/
theorem lent_bs (v : Value) (bs : List UInt8) (w : World) (h : Bs w v bs) (hl : bs.length ≤ 140737488351232) :
    Calls Try.prog 15 #[v] w fun e w' => ∃ v', e = .returned v' ∧ Lentd w.heap.size w' v' bs ∧ Same w w' := by
  obtain ⟨A, cap, rfl, k1, k2, k3⟩ := id h
  have H := Lib.hid h
  clear h k3
  go_enter Try.func15, Try.ntmps15
  go_wp2_with
    (first
    | (at_builtin; refine wpl_append_bytes rfl (.tmp 4) (.tmp 5) 22 rfl Try.underlying22 li5 w.heap.size (.slice none 0 0) (.slice A bs.length cap) [] bs bs rfl rfl rfl (Fresh.nil _ _) H.out (Nat.le_refl _) (by simp; omega) ?_; intro v2 w2 hf2 hu2 hr2)
    | (at_builtin; refine wpl_append_bytes rfl (.tmp 7) (.tmp 8) 22 rfl Try.underlying22 li5 w.heap.size v2 _ bs [167] (bs ++ [167]) rfl rfl rfl (hf2.same ((Upd.refl _ w2).alloc _)) (Bs.one w2 167 _ _ rfl (by decide) (by decide)) (by have := hu2.size; simp; omega) (by simp; omega) ?_; intro v3 w3 hf3 hu3 hr3; obtain ⟨b, off, cp, rfl⟩ := Fresh.open_ hf3; have hcp := (Lentd.cap hf3).1; have hcp2 := (Lentd.cap hf3).2.1))
  have hs2 : Same w w2 := hu2.mono fun i _ hi => by simp [room] at hi
  have hs3 := Same.row (Same.trans hs2 ((Upd.refl _ w2).alloc _)) (hf2.same ((Upd.refl _ w2).alloc _)) hu3
  exact bodyPost_ret (v := .slice (some ⟨b, off, none⟩) bs.length cp) (by simp [results, Try.results15, go_sem]) rfl ⟨_, rfl, ⟨b, off, cp, rfl, by simpa using hf3⟩, hs3⟩
/-- Kept. -/
theorem kept_bs {base : Nat} (v u : Value) (bs : List UInt8) (w : World) (h : Lentd base w v bs) (hu : Bs w u bs) (hl : bs.length ≤ 140737488351232) :
    Calls Try.prog 18 #[v, u] w fun e w' => e = .returned (.bool true) ∧ w = w' := by
  have c1 := conv_bs (P := Try.prog) (src := 22) (dst := 9) Try.underlying22 Try.underlying5 Try.underlying9 h.bs
  have c2 := conv_bs (P := Try.prog) (src := 22) (dst := 9) Try.underlying22 Try.underlying5 Try.underlying9 hu
  obtain ⟨A, cap2, rfl, k1, k2, k3⟩ := id hu
  obtain ⟨b, off, cap, rfl, hf⟩ := h
  obtain ⟨hcap, hcap2, _⟩ := Lentd.cap hf
  have hcell := (Fresh.at_ hf bs.length (by simp)).1
  rw [show at8 (bs ++ [167]) bs.length = 167 by simp [at8]] at hcell
  have e1 : eqB bs bs = true := eqB_true rfl
  clear k3 hf hu
  go_enter Try.func18, Try.ntmps18
  go_wp2
  go_ret
  exact ⟨rfl, rfl⟩
/-- Spoil. -/
theorem spoil_bs {base : Nat} (v : Value) (bs : List UInt8) (w : World) (h : Fresh base w v bs) (hb : base ≤ w.heap.size) (hl : bs.length ≤ 140737488351232) :
    Calls Try.prog 19 #[v] w fun e w' => e = .returned (.tuple #[]) ∧ Upd (fun k => room v = some k) w w' := by
  obtain ⟨A, n, cap, rfl, q1, q2, q3, q4⟩ := id h
  obtain rfl : bs.length = n := by simpa using q1
  clear q1 q4
  go_enter Try.func19, Try.ntmps19
  go_wp2
  go_loopw [2] (fun v2 wr => ∃ k : Nat, k ≤ bs.length ∧ v2 = .int .i64 k ∧ ∃ xs, xs.length = bs.length ∧ Fresh base wr (.slice A bs.length cap) xs ∧ Upd (fun k => room (.slice A bs.length cap) = some k) w wr) (fun v2 _ => bs.length - (intOf v2).toNat)
  case atStart => exact ⟨0, by omega, rfl, bs, rfl, h, Upd.refl _ w⟩
  case round =>
    obtain ⟨k, hk, rfl, xs, hx, hf, hs⟩ := hrel
    by_cases hlt : k < bs.length
    · obtain ⟨b, off, rfl⟩ := Fresh.addr hf (by omega)
      obtain ⟨hcell, hfr⟩ := hf.at_ k (by omega)
      obtain ⟨f1, f2, f3⟩ := hf.set k (by omega) 90 90 rfl
      have hs3 := Upd.trans hs f2 fun i _ e => by rw [e]; exact room_some _ _ _ _ (by omega)
      have F1 := Lib.hid f1
      have S3 := Lib.hid hs3
      have HX := Lib.hid hx
      have g1 : (k : Int) < (bs.length : Int) := by omega
      clear f1 f2 hs3 hf h hx
      go_wp2
      go_roundw
      case rel => exact ⟨k + 1, by omega, by go_num, _, by rw [List.length_set]; exact HX.out, F1.out, S3.out⟩
      case measure => simp [intOf]; omega
    · obtain rfl : k = bs.length := by omega
      have HF := Lib.hid hf
      have HX := Lib.hid hx
      have hsz := hs.size
      clear hf hx h
      go_wp2_with (at_builtin; refine wpl_append_bytes rfl (.tmp 12) (.tmp 13) 22 rfl Try.underlying22 li5 base (.slice A bs.length cap) _ xs [91] (xs ++ [91]) rfl rfl rfl (HF.out.same ((Upd.refl _ wr).alloc _)) (Bs.one wr 91 _ _ rfl (by decide) (by decide)) (by simp; omega) (by have := HX.out; simp; omega) ?_; intro v3 w3 hf3 hu3 hr3; obtain ⟨b, off, cp, rfl⟩ := Fresh.open_ hf3; have hcp := (Lentd.cap hf3).1; have hcp2 := (Lentd.cap hf3).2.1; obtain ⟨hcell, hfr⟩ := hf3.at_ xs.length (by simp); obtain ⟨f1, f2, f3⟩ := hf3.set xs.length (by simp) 92 92 rfl; have HR := Lib.hid (hr3 b (room_some _ _ _ _ (by omega))); have F2 := Lib.hid f2; have U3 := Lib.hid hu3; clear f1 f2 hf3 hr3 hu3)
      refine bodyPost_end (v := .tuple #[]) (by simp [results, Try.results19, go_sem]) rfl ?_
      refine ⟨rfl, Upd.trans (Upd.trans (hs.alloc _) U3.out fun i _ e => e) F2.out fun i hi e => ?_⟩
      subst e
      rcases HR.out with e | e
      · exact e
      · simp at e; omega
end
section
open Go.RowKit
set_option linter.unusedVariables false
set_option linter.unusedSimpArgs false

/-- Two cells of a block: v, and an error's number. -/
def Cell2 (w : World) (p : Nat) (v : Value) (e : Int) : Prop :=
  w.cell? ⟨p, 0, none⟩ = some v ∧ w.cell? ⟨p, 1, none⟩ = some (.int .i64 e) ∧ w.frozen? ⟨p, 0, none⟩ = false ∧ w.frozen? ⟨p, 1, none⟩ = false
theorem cell_lt {w : World} {a : Addr} {v : Value} (h : w.cell? a = some v) : a.block < w.heap.size := by
  unfold World.cell? at h
  cases hk : w.heap[a.block]? with
  | none => rw [hk] at h; simp at h
  | some o => exact (Array.getElem?_eq_some_iff.1 hk).1
theorem Cell2.lt {w : World} {p : Nat} {v : Value} {e : Int} (h : Cell2 w p v e) : p < w.heap.size := cell_lt h.1
theorem Cell2.upd {S : Nat → Prop} {w w' : World} {p : Nat} {v : Value} {e : Int} (h : Cell2 w p v e) (hu : Upd S w w') (hn : ¬ S p) : Cell2 w' p v e :=
  ⟨hu.cell h.1 hn, hu.cell h.2.1 hn, (hu.frozen (p := ⟨p, 0, none⟩) h.lt hn).trans h.2.2.1, (hu.frozen (p := ⟨p, 1, none⟩) h.lt hn).trans h.2.2.2⟩
theorem addr01 (p : Nat) : (⟨p, 0, none⟩ : Addr) ≠ ⟨p, 1, none⟩ := by
  intro h
  injection h with h1 h2
  exact absurd h2 (by decide)
theorem Cell2.set0 {w : World} {p : Nat} {v : Value} {e : Int} (h : Cell2 w p v e) (v' : Value) : Cell2 (w.setCell ⟨p, 0, none⟩ v') p v' e :=
  ⟨World.cell?_setCell_same _ _ _ h.1, by rw [World.cell?_setCell_other _ _ _ _ (addr01 p)]; exact h.2.1, by rw [World.frozen?_setCell]; exact h.2.2.1, by rw [World.frozen?_setCell]; exact h.2.2.2⟩
theorem Cell2.set1 {w : World} {p : Nat} {v : Value} {e : Int} (h : Cell2 w p v e) (e' : Int) : Cell2 (w.setCell ⟨p, 1, none⟩ (.int .i64 e')) p v e' :=
  ⟨by rw [World.cell?_setCell_other _ _ _ _ (addr01 p).symm]; exact h.1, World.cell?_setCell_same _ _ _ h.2.1, by rw [World.frozen?_setCell]; exact h.2.2.1, by rw [World.frozen?_setCell]; exact h.2.2.2⟩
theorem Cell2.new (w : World) (v : Value) (e : Int) (t : TypeId) (p : Nat) (hp : p = w.heap.size) : Cell2 (w.alloc (.cells #[v, .int .i64 e] t)) p v e := by
  subst hp
  have h : (w.alloc (.cells #[v, .int .i64 e] t)).heap[w.heap.size]? = some (.cells #[v, .int .i64 e] t) := heap_alloc_new w _
  refine ⟨by rw [cell_of_row _ _ _ _ t (0, 0) h]; rfl, by rw [cell_of_row _ _ _ _ t (0, 0) h]; rfl, ?_, ?_⟩
  all_goals
    unfold World.frozen?
    rw [h]
    simp
/-- An object of a row of the call's own and an error. -/
def WObj (base : Nat) (w : World) (p : Nat) (v : Value) (bs : List UInt8) (e : Int) : Prop := base ≤ p ∧ Cell2 w p v e ∧ Fresh base w v bs ∧ ¬ room v = some p
/-- What an object's doings may write: its block, its row. -/
def foot (p : Nat) (v : Value) : Nat → Prop := fun k => k = p ∨ room v = some k
theorem WObj.upd {base : Nat} {S : Nat → Prop} {w w' : World} {p : Nat} {v : Value} {bs : List UInt8} {e : Int} (h : WObj base w p v bs e) (hu : Upd S w w') (hn : ∀ k, foot p v k → ¬ S k) : WObj base w' p v bs e :=
  ⟨h.1, h.2.1.upd hu (hn p (.inl rfl)), h.2.2.1.upd hu (fun k hk => hn k (.inr hk)), h.2.2.2⟩
theorem WObj.foot {base : Nat} {w : World} {p : Nat} {v : Value} {bs : List UInt8} {e : Int} (h : WObj base w p v bs e) : ∀ k, foot p v k → base ≤ k ∧ k < w.heap.size := by
  rintro k (rfl | hk)
  · exact ⟨h.1, h.2.1.lt⟩
  · exact h.2.2.1.ge k hk
/-- Behind some doings of an object: what it is now, what was written. -/
def Grew (base : Nat) (w : World) (p : Nat) (v : Value) (w' : World) (bs' : List UInt8) (e' : Int) : Prop :=
  ∃ v', WObj base w' p v' bs' e' ∧ Upd (foot p v) w w' ∧ ∀ k, room v' = some k → room v = some k ∨ w.heap.size ≤ k
theorem Grew.refl {base : Nat} {w : World} {p : Nat} {v : Value} {bs : List UInt8} {e : Int} (h : WObj base w p v bs e) : Grew base w p v w bs e := ⟨v, h, Upd.refl _ w, fun k hk => .inl hk⟩
theorem Grew.err {base : Nat} {w : World} {p : Nat} {v : Value} {bs : List UInt8} {e : Int} (h : WObj base w p v bs e) (e' : Int) : Grew base w p v (w.setCell ⟨p, 1, none⟩ (.int .i64 e')) bs e' :=
  ⟨v, ⟨h.1, h.2.1.set1 e', h.2.2.1.upd ((Upd.refl (fun k => k = p) w).setCell (p := ⟨p, 1, none⟩) (fun _ => rfl) _) (fun k hk e => h.2.2.2 (by rw [hk, e])), h.2.2.2⟩,
    (Upd.refl (Proofs.Ytccbkagmglddfaa.foot p v) w).setCell (p := ⟨p, 1, none⟩) (fun _ => .inl rfl) _, fun k hk => .inl hk⟩
/-- A row of the call's own takes the place of the object's. -/
theorem Grew.row {base : Nat} {w w1 : World} {p : Nat} {v v' : Value} {bs bs' : List UInt8} {e : Int} (h : WObj base w p v bs e) (hb : base ≤ w.heap.size) (hu : Upd (fun k => room v = some k) w w1) (hf : Fresh base w1 v' bs')
    (hr : ∀ k, room v' = some k → room v = some k ∨ w.heap.size ≤ k) : Grew base w p v (w1.setCell ⟨p, 0, none⟩ v') bs' e := by
  have hp := h.2.1.lt
  have hne : ¬ room v' = some p := fun e => by
    rcases hr p e with e | e
    · exact h.2.2.2 e
    · omega
  refine ⟨v', ⟨h.1, (h.2.1.upd hu h.2.2.2).set0 v', hf.upd ((Upd.refl (fun k => k = p) w1).setCell (p := ⟨p, 0, none⟩) (fun _ => rfl) _) (fun k hk e => hne (by rw [hk, e])), hne⟩, ?_, hr⟩
  exact (hu.mono fun k _ hk => .inr hk).setCell (p := ⟨p, 0, none⟩) (fun _ => .inl rfl) _
theorem Grew.trans {base : Nat} {w w1 w2 : World} {p : Nat} {v v1 : Value} {bs2 : List UInt8} {e2 : Int} (hu : Upd (Proofs.Ytccbkagmglddfaa.foot p v) w w1) (hr : ∀ k, room v1 = some k → room v = some k ∨ w.heap.size ≤ k) (h2 : Grew base w1 p v1 w2 bs2 e2) : Grew base w p v w2 bs2 e2 := by
  obtain ⟨v2, h3, h4, h5⟩ := h2
  refine ⟨v2, h3, hu.trans h4 ?_, ?_⟩
  · rintro k hk (e | e)
    · exact .inl e
    · rcases hr k e with e | e
      · exact .inr e
      · omega
  · intro k hk
    rcases h5 k hk with e | e
    · exact hr k e
    · exact .inr (Nat.le_trans hu.size e)
end
section
open Go.RowKit
set_option linter.unusedVariables false
set_option linter.unusedSimpArgs false

/-- Are there so many bytes at a place? -/
def thereB (len : Nat) (at_ size : Int) : Bool := decide (1 ≤ size ∧ size ≤ 8 ∧ 0 ≤ at_ ∧ at_ + size ≤ len)
/-- Does a number go into so many bytes? -/
def fitsB (n : Int) (size : Int) : Bool := decide (n < 256 ^ size.toNat)
/-- A number's bytes, the highest first. -/
def numB (n : Int) : Nat → List UInt8
  | 0 => []
  | k + 1 => UInt8.ofNat (n / 256 ^ k % 256).toNat :: numB n k
theorem numB_length (n : Int) (k : Nat) : (numB n k).length = k := by
  induction k with
  | zero => rfl
  | succ k ih => rw [numB, List.length_cons, ih]
theorem numB_drop (n : Int) (k m : Nat) : (numB n (m + k)).drop m = numB n k := by
  induction m with
  | zero => simp
  | succ m ih =>
    rw [show m + 1 + k = (m + k) + 1 by omega, numB, List.drop_succ_cons, ih]
/-- The number of some bytes. -/
def valB (bs : List UInt8) : Int := bs.foldl (fun n b => n * 256 + (b.toNat : Int)) 0
theorem valB_snoc (bs : List UInt8) (b : UInt8) : valB (bs ++ [b]) = valB bs * 256 + (b.toNat : Int) := by simp [valB, List.foldl_append]
theorem valB_range (bs : List UInt8) : 0 ≤ valB bs ∧ valB bs < 256 ^ bs.length := by
  induction h : bs.length generalizing bs with
  | zero => rw [List.eq_nil_of_length_eq_zero h]; decide
  | succ k ih =>
    obtain ⟨init, b, rfl⟩ : ∃ init b, bs = init ++ [b] := ⟨bs.dropLast, bs.getLast (by intro e; rw [e] at h; simp at h), (List.dropLast_concat_getLast _).symm⟩
    have hl : init.length = k := by simpa using h
    have := ih init hl
    have hb := b.toNat_lt
    rw [valB_snoc, Int.pow_succ]
    omega
theorem numB_snoc (n : Int) (k : Nat) (h : 0 ≤ n) : numB n (k + 1) = numB (n / 256) k ++ [UInt8.ofNat (n % 256).toNat] := by
  induction k with
  | zero => simp [numB]
  | succ k ih =>
    rw [numB, ih, numB, List.cons_append]
    congr 4
    rw [Int.pow_succ, Int.mul_comm, Int.ediv_ediv_of_nonneg (by decide)]
theorem valB_numB (n : Int) (k : Nat) (h : 0 ≤ n) (h2 : n < 256 ^ k) : valB (numB n k) = n := by
  induction k generalizing n with
  | zero =>
    have : n = 0 := by simp at h2; omega
    subst this
    rfl
  | succ k ih =>
    rw [numB_snoc n k h, valB_snoc, ih (n / 256) (by omega) (by rw [Int.pow_succ] at h2; omega)]
    have : (UInt8.ofNat (n % 256).toNat).toNat = (n % 256).toNat := by
      simp
      omega
    rw [this]
    omega
theorem numB_valB (bs : List UInt8) : numB (valB bs) bs.length = bs := by
  induction h : bs.length generalizing bs with
  | zero => rw [List.eq_nil_of_length_eq_zero h]; rfl
  | succ k ih =>
    obtain ⟨init, b, rfl⟩ : ∃ init b, bs = init ++ [b] := ⟨bs.dropLast, bs.getLast (by intro e; rw [e] at h; simp at h), (List.dropLast_concat_getLast _).symm⟩
    have hl : init.length = k := by simpa using h
    have hr := valB_range init
    have hb := b.toNat_lt
    rw [numB_snoc _ _ (valB_range _).1, valB_snoc]
    have e1 : (valB init * 256 + (b.toNat : Int)) / 256 = valB init := by omega
    have e2 : (valB init * 256 + (b.toNat : Int)) % 256 = (b.toNat : Int) := by omega
    rw [e1, e2, ih init hl]
    simp

/-- Bytes with a number at a place, and the error. -/
def putL (bs : List UInt8) (at_ size n : Int) : List UInt8 :=
  if thereB bs.length at_ size then (if fitsB n size then bs.take at_.toNat ++ numB n size.toNat ++ bs.drop (at_ + size).toNat else []) else []
def putE (len : Nat) (at_ size n : Int) : Int := if thereB len at_ size then (if fitsB n size then 0 else 3) else 1
/-- The number at a place, and the error. -/
def getN (bs : List UInt8) (at_ size : Int) : Int := if thereB bs.length at_ size then valB ((bs.drop at_.toNat).take size.toNat) else 0
def getE (len : Nat) (at_ size : Int) : Int := if thereB len at_ size then 0 else 1
end
section
open Go.RowKit
set_option linter.unusedVariables false
set_option linter.unusedSimpArgs false

theorem there_any (A : Option Addr) (n cap : Nat) (at_ size : Int) (w : World) (h1 : -9223372036854775808 ≤ at_) (h2 : at_ ≤ 9223372036854775807) (h3 : -9223372036854775808 ≤ size) (h4 : size ≤ 9223372036854775807) (hn : n ≤ 9223372036854775807) :
    Calls Try.prog 85 #[.slice A n cap, .int .i64 at_, .int .i64 size] w fun e w' => e = .returned (.bool (thereB n at_ size)) ∧ w = w' := by
  unfold thereB
  by_cases c1 : 1 ≤ size
  · by_cases c2 : size ≤ 8
    · by_cases c3 : 0 ≤ at_
      · by_cases c4 : size ≤ n
        · by_cases c5 : at_ ≤ n - size
          · go_enter Try.func85, Try.ntmps85
            go_wp2
            go_ret
            exact ⟨ret_bool (by simp; omega), rfl⟩
          · go_enter Try.func85, Try.ntmps85
            go_wp2
            go_ret
            exact ⟨ret_bool (by simp; omega), rfl⟩
        · go_enter Try.func85, Try.ntmps85
          go_wp2
          go_ret
          exact ⟨ret_bool (by simp; omega), rfl⟩
      · go_enter Try.func85, Try.ntmps85
        go_wp2
        go_ret
        exact ⟨ret_bool (by simp; omega), rfl⟩
    · go_enter Try.func85, Try.ntmps85
      go_wp2
      go_ret
      exact ⟨ret_bool (by simp; omega), rfl⟩
  · go_enter Try.func85, Try.ntmps85
    go_wp2
    go_ret
    exact ⟨ret_bool (by simp; omega), rfl⟩
theorem fits_num (n size : Int) (h1 : 0 ≤ n) (h3 : 1 ≤ size) : (n / 2 ^ (8 * size).toNat == 0) = fitsB n size := by
  have e : (2 : Int) ^ (8 * size).toNat = 256 ^ size.toNat := by
    rw [show (8 * size).toNat = 8 * size.toNat by omega, Int.pow_mul]
    rfl
  have hp : (0 : Int) < 256 ^ size.toNat := Int.pow_pos (by decide)
  unfold fitsB
  rw [e, Bool.eq_iff_iff, beq_iff_eq, decide_eq_true_iff]
  constructor
  · intro h
    have := Int.lt_mul_ediv_self_add (x := n) hp
    rw [h] at this
    omega
  · intro h
    exact Int.ediv_eq_zero_of_lt h1 h
theorem fits_any (n size : Int) (w : World) (h1 : 0 ≤ n) (h2 : n ≤ 18446744073709551615) (h3 : 1 ≤ size) (h4 : size ≤ 8) :
    Calls Try.prog 74 #[.int .u64 n, .int .i64 size] w fun e w' => e = .returned (.bool (fitsB n size)) ∧ w = w' := by
  by_cases h8 : size = 8
  · subst h8
    go_enter Try.func74, Try.ntmps74
    go_wp2
    go_ret
    exact ⟨ret_bool (by unfold fitsB; simp; omega), rfl⟩
  · have h9 : (size == 8) = false := by simpa using h8
    go_enter Try.func74, Try.ntmps74
    go_wp2
    go_ret
    exact ⟨ret_bool (fits_num n size h1 (by omega)), rfl⟩
/-- The eight bytes of a number, as the array holds them. -/
def numArr (n : Int) : Array Value := #[.int .u8 (n / 72057594037927936), .int .u8 (n / 281474976710656 % 256), .int .u8 (n / 1099511627776 % 256), .int .u8 (n / 4294967296 % 256), .int .u8 (n / 16777216 % 256), .int .u8 (n / 65536 % 256), .int .u8 (n / 256 % 256), .int .u8 (n % 256)]
theorem B_ofNat (x : Int) (h0 : 0 ≤ x) (h1 : x < 256) : B (UInt8.ofNat x.toNat) = .int .u8 x := by
  unfold B
  congr 1
  simp
  omega
theorem numArr_eq (n : Int) (h1 : 0 ≤ n) (h2 : n ≤ 18446744073709551615) : (numB n 8).map B = (numArr n).toList := by
  simp only [numB, List.map_cons, List.map_nil, numArr]
  rw [B_ofNat _ (by omega) (by omega), B_ofNat _ (by omega) (by omega), B_ofNat _ (by omega) (by omega), B_ofNat _ (by omega) (by omega), B_ofNat _ (by omega) (by omega), B_ofNat _ (by omega) (by omega), B_ofNat _ (by omega) (by omega), B_ofNat _ (by omega) (by omega)]
  have e7 : n / 256 ^ 7 % 256 = n / 72057594037927936 := by
    have : (256 : Int) ^ 7 = 72057594037927936 := by decide
    rw [this]
    omega
  rw [e7]
  simp
theorem number_any (n : Int) (w : World) (h1 : 0 ≤ n) (h2 : n ≤ 18446744073709551615) :
    Calls Try.prog 53 #[.int .u64 n] w fun e w' => e = .returned (.agg (numArr n)) ∧ Same w w' := by
  go_enter Try.func53, Try.ntmps53
  go_wp2
  refine wp_loop_rounds 9 ?_
  rw [rounds_succ]
  go_wp2
  rw [rounds_succ]
  go_wp2
  rw [rounds_succ]
  go_wp2
  rw [rounds_succ]
  go_wp2
  rw [rounds_succ]
  go_wp2
  rw [rounds_succ]
  go_wp2
  rw [rounds_succ]
  go_wp2
  rw [rounds_succ]
  go_wp2
  rw [rounds_succ]
  go_wp2
  exact bodyPost_ret (v := .agg (numArr n)) (by simp [results, Try.results53, go_sem, numArr]) rfl ⟨rfl, ((Upd.refl _ w).alloc _).alloc _⟩
theorem Fresh.empty (base : Nat) (w : World) (A : Option Addr) : Fresh base w (.slice A 0 0) [] := ⟨A, 0, 0, rfl, rfl, by omega, by omega, .inl rfl⟩
/-- slices.Clone of bytes: the same bytes in new memory. -/
theorem clone_bs (v : Value) (bs : List UInt8) (w : World) (h : Bs w v bs) (hl : bs.length ≤ 200000000000000) :
    Calls Try.prog 55 #[v] w fun e w' => ∃ v', e = .returned v' ∧ Fresh w.heap.size w' v' bs ∧ Same w w' := by
  have hi5 : (Try.prog.info? 5).map (fun i => (i.zero, i.size, i.bytes)) = some (some (.int .u8 0), 1, 1) := by kernel_rfl
  obtain ⟨A, cap, rfl, h1, h2, h3⟩ := h
  have hnil := fun (W : World) (n : Nat) => Lib.run_eql_slice_nil (P := Try.prog) W 22 5 A n cap 0 0 Try.underlying22
  rcases A with _ | a
  · have hb : bs = [] := by
      rcases h3 with h3 | ⟨_, _, h3, _⟩
      · exact h3
      · cases h3
    subst hb
    go_enter Try.func55, Try.ntmps55
    go_wp2
    go_ret
    exact ⟨_, rfl, Fresh.nil _ w, Upd.refl _ w⟩
  · go_enter Try.func55, Try.ntmps55
    go_wp2_with (at_builtin; refine wpl_append_bytes rfl (.tmp 5) (.tmp 6) 22 rfl Try.underlying22 hi5 w.heap.size (.slice (some ⟨w.heap.size, 0, none⟩) 0 0) (.slice (some a) bs.length cap) [] bs bs rfl rfl rfl (Fresh.empty _ _ _) (Bs.same ⟨_, cap, rfl, h1, h2, h3⟩ ((Upd.refl _ w).alloc _)) (by simp) (by simpa using hl) ?_; intro v2 w2 hf2 hu2 hr2)
    go_ret
    exact ⟨_, rfl, hf2, ((Upd.refl _ w).alloc _).trans hu2 fun i _ hi => by simp [room] at hi⟩
/-- copy(v[i:], u) at a step of a region that draws its order: bytes of a row of the call's own are written over. -/
theorem step_copy {P : Program} {ops : Array Oper} {o : Oper} {a : Act} {w : World} {K : Act → World → Prop} {Q : Exit → Act → World → Prop} {E : Prop}
    (hg : o.guard = none) (s x : Operand) (t : TypeId) (hop : o.op = Op.call { callee := Callee.builtin Builtin.copy, args := #[s, x], argTypes := #[t, t] })
    {e : TypeId} (ht : P.underlying t = some (.slice e)) (hs : (P.info? e).map (·.size) = some 1)
    (base b off n cap i dl dc : Nat) (u : Value) (xs ys : List UInt8) (hvs : a.eval s = .slice (some ⟨b, off + i, none⟩) dl dc) (hux : a.eval x = u)
    (hv : Fresh base w (.slice (some ⟨b, off, none⟩) n cap) xs) (hu : Bs w u ys) (hdl : ys.length ≤ dl) (hin : i + ys.length ≤ xs.length) (h0 : 0 < ys.length)
    (h : ∀ w', Fresh base w' (.slice (some ⟨b, off, none⟩) n cap) (xs.take i ++ ys ++ xs.drop (i + ys.length)) → Upd (fun k => k = b) w w' → base ≤ b → K (a.put o.dst (.int .i64 ys.length)) w') :
    if Region.wanted o (yielded ops a.tmps) = true then Oper.wp P o a w K Q else E := by
  have hw : Region.wanted o (yielded ops a.tmps) = true := by simp [Region.wanted, hg]
  rw [if_pos hw]
  obtain ⟨A, n', cap', ev, k1, k2, k3, k4⟩ := hv
  injection ev with e1 e2 e3
  subst e2 e3
  have hn : xs.length = n := by simpa using k1
  rcases k4 with k4 | ⟨b', off', e1', hb, hc, hr⟩
  · omega
  rw [e1'] at e1
  injection e1 with e1
  injection e1 with e1 e4
  subst e1 e4
  rcases hu.cases with ⟨rfl, _⟩ | ⟨_, sb, so, sc, rfl, q1, q2, q3⟩
  · simp at h0
  have hroom : ∀ j, j < (ys.map B).length → (w.cell? ⟨b, off + i + j, none⟩).isSome = true ∧ w.frozen? ⟨b, off + i + j, none⟩ = false := fun j hj => by
    have := hr (i + j) (by simp at hj; omega)
    rwa [← Nat.add_assoc] at this
  have hrun := run_copy_cells (P := P) w t t o.type e b (off + i) dl dc ⟨sb, so, none⟩ ys.length sc (ys.map B) ht hs (by show _ = min ys.length dl; rw [Nat.min_eq_left hdl]; simp)
    (fun j v hj => by
      obtain ⟨hj', rfl⟩ := B_get hj
      rw [Addr.add_lit]
      exact q3 j hj') (fun j hj => (hroom j hj).1) (fun j hj => (hroom j hj).2) (B_one ys)
  unfold Oper.wp
  simp [execOp, hop, resolve, invoke, builtin, hvs, hux, hrun, Result.andThen, goInt]
  refine h _ ⟨_, n, cap, rfl, by simp; omega, k2, k3, .inr ⟨b, off, rfl, hb, ?_, ?_⟩⟩ (setCells_upd b _ _ w) hb
  · intro j v hj
    by_cases hji : i ≤ j ∧ j < i + ys.length
    · have hin := World.cell?_setCells_in b (ys.map B) (off + i) w (fun j hj => (hroom j hj).1) (j - i) (by simp; omega)
      rw [show off + j = off + i + (j - i) by omega, hin]
      rw [List.map_append, List.map_append, List.append_assoc, List.getElem?_append_right (by simp; omega), List.getElem?_append_left (by simp; omega)] at hj
      have hl : (List.map B (xs.take i)).length = i := by simp; omega
      rw [hl, List.getElem?_eq_getElem (by simp; omega)] at hj
      exact hj
    · rw [World.cell?_setCells_out b _ _ w ⟨b, off + j, none⟩ (fun _ _ => by simp; omega)]
      refine hc j v ?_
      rw [← hj]
      by_cases hlt : j < i
      · rw [List.map_append, List.map_append, List.append_assoc, List.getElem?_append_left (by simp; omega)]
        simp [hlt]
      · rw [List.map_append, List.map_append, List.getElem?_append_right (by simp; omega)]
        have hl : (List.map B (xs.take i) ++ List.map B ys).length = i + ys.length := by simp; omega
        rw [hl]
        simp only [List.getElem?_map, List.getElem?_drop]
        congr 2
        omega
  · intro j hj
    refine ⟨?_, by rw [World.frozen?_setCells]; exact (hr j hj).2⟩
    by_cases hji : i ≤ j ∧ j < i + ys.length
    · have hin := World.cell?_setCells_in b (ys.map B) (off + i) w (fun j hj => (hroom j hj).1) (j - i) (by simp; omega)
      rw [show off + j = off + i + (j - i) by omega, hin]
      rfl
    · rw [World.cell?_setCells_out b _ _ w ⟨b, off + j, none⟩ (fun _ _ => by simp; omega)]
      exact (hr j hj).1

/-- The last m of a number's eight bytes, as the array is sliced. -/
theorem Bs.num8 (W : World) (n : Int) (t : TypeId) (g q m : Nat) (hg : g = W.heap.size) (hq : q + m = 8) (hm : 1 ≤ m) (h1 : 0 ≤ n) (h2 : n ≤ 18446744073709551615) :
    Bs (W.alloc (.cells (numArr n) t)) (.slice (some ⟨g, q, none⟩) (8 - q) (8 - q)) (numB n m) := by
  subst hg
  have hl : (numB n m).length = 8 - q := by rw [numB_length]; omega
  refine ⟨_, 8 - q, by rw [hl], by omega, by omega, .inr ⟨_, _, rfl, fun j hj => ?_⟩⟩
  have h : (W.alloc (.cells (numArr n) t)).heap[W.heap.size]? = some (.cells (numArr n) t) := heap_alloc_new W _
  rw [cell_of_row _ _ _ _ t (0, 0) h]
  have e : (numArr n)[q + j]? = ((numB n 8).map B)[q + j]? := by rw [numArr_eq n h1 h2]; simp
  have hd : numB n m = (numB n 8).drop q := by
    have := numB_drop n m q
    rw [hq] at this
    exact this.symm
  rw [numB_length] at hj
  rw [e, B_at _ _ (by rw [numB_length]; omega), hd]
  simp [at8, List.getD_eq_getElem?_getD]
end
section
open Go.RowKit
set_option maxRecDepth 20000
set_option linter.unusedVariables false
set_option linter.unusedSimpArgs false

theorem rfits_num (n size : Int) (h1 : 0 ≤ n) (h3 : 1 ≤ size) (h9 : size < 8) : (decide (8 ≤ size) || decide (n < IntKind.u64.wrap (2 ^ (8 * size).toNat))) = fitsB n size := by
  have e : (2 : Int) ^ (8 * size).toNat = 256 ^ size.toNat := by
    rw [show (8 * size).toNat = 8 * size.toNat by omega, Int.pow_mul]
    rfl
  have hw : IntKind.u64.wrap (2 ^ (8 * size).toNat) = 256 ^ size.toNat := by
    rcases (show size = 1 ∨ size = 2 ∨ size = 3 ∨ size = 4 ∨ size = 5 ∨ size = 6 ∨ size = 7 by omega) with rfl | rfl | rfl | rfl | rfl | rfl | rfl <;> decide
  have h8 : ¬ 8 ≤ size := by omega
  unfold fitsB
  rw [hw]
  simp [h8]
theorem rfits_any (n size : Int) (w : World) (h1 : 0 ≤ n) (h2 : n ≤ 18446744073709551615) (h3 : 1 ≤ size) (h4 : size ≤ 8) :
    Calls Try.prog 86 #[.int .u64 n, .int .i64 size] w fun e w' => e = .returned (.bool (fitsB n size)) ∧ w = w' := by
  by_cases h8 : size = 8
  · subst h8
    go_enter Try.func86, Try.ntmps86
    go_wp2
    go_ret
    exact ⟨ret_bool (by unfold fitsB; simp; omega), rfl⟩
  · have h9 : size < 8 := by omega
    go_enter Try.func86, Try.ntmps86
    go_wp2
    go_ret
    exact ⟨ret_bool (rfits_num n size h1 h3 h9), rfl⟩
theorem take_set_snoc (xs L : List UInt8) (i k m : Nat) (hL : L.length = m) (hk : k < m) (hi : i + m ≤ xs.length) :
    (xs.take i ++ L.take k ++ xs.drop (i + k)).set (i + k) (L.getD k 0) = xs.take i ++ L.take (k + 1) ++ xs.drop (i + (k + 1)) := by
  have h1 : (xs.take i ++ L.take k).length = i + k := by simp; omega
  rw [List.set_append_right _ _ (by omega), h1, Nat.sub_self]
  have h2 : xs.drop (i + k) = xs[i + k]'(by omega) :: xs.drop (i + k + 1) := List.drop_eq_getElem_cons (by omega)
  rw [h2, List.set_cons_zero, List.take_succ_eq_append_getElem (l := L) (i := k) (by omega)]
  rw [List.getD_eq_getElem?_getD, List.getElem?_eq_getElem (by omega)]
  simp only [Option.getD_some, List.append_assoc, List.cons_append, List.nil_append, Nat.add_assoc]
theorem numB_at (n : Int) (m k : Nat) (hk : k < m) (h0 : 0 ≤ n) : n / 2 ^ (8 * (m - 1 - k)) % 256 = at8 [(numB n m).getD k 0] 0 := by
  have h : ∀ (m k : Nat), k < m → (numB n m).getD k 0 = UInt8.ofNat (n / 256 ^ (m - 1 - k) % 256).toNat := by
    intro m
    induction m with
    | zero => intro k hk; omega
    | succ m ih =>
      intro k hk
      rw [numB]
      cases k with
      | zero => simp
      | succ k =>
        rw [List.getD_cons_succ, ih k (by omega), show m + 1 - 1 - (k + 1) = m - 1 - k by omega]
  rw [h m k hk]
  have e : (2 : Int) ^ (8 * (m - 1 - k)) = 256 ^ (m - 1 - k) := by rw [Int.pow_mul]; rfl
  rw [e, at8_one _ (by omega) (by omega)]
theorem rput_bs (v : Value) (bs : List UInt8) (at_ size n : Int) (w : World) (h : Bs w v bs) (hl : bs.length ≤ 200000000000000) (h1 : -9223372036854775808 ≤ at_) (h2 : at_ ≤ 9223372036854775807) (h3 : -9223372036854775808 ≤ size) (h4 : size ≤ 9223372036854775807) (h5 : 0 ≤ n) (h6 : n ≤ 18446744073709551615) :
    Calls Try.prog 87 #[v, .int .i64 at_, .int .i64 size, .int .u64 n] w fun e w' => ∃ v', e = .returned (.tuple #[v', .int .i64 (putE bs.length at_ size n)]) ∧ Fresh w.heap.size w' v' (putL bs at_ size n) ∧ Same w w' := by
  have hi5 : (Try.prog.info? 5).map (fun i => (i.zero, i.size, i.bytes)) = some (some (.int .u8 0), 1, 1) := by kernel_rfl
  obtain ⟨A, cap, rfl, k1, k2, k3⟩ := id h
  cases ht : thereB bs.length at_ size with
  | false =>
    have hE : putE bs.length at_ size n = 1 := by unfold putE; rw [ht]; rfl
    have hL : putL bs at_ size n = [] := by unfold putL; rw [ht]; rfl
    rw [hE, hL]
    have hts : ¬ (1 ≤ size ∧ size ≤ 8 ∧ 0 ≤ at_ ∧ at_ + size ≤ bs.length) := by simpa [thereB] using ht
    clear ht hE hL h
    by_cases c1 : size < 1
    · go_enter Try.func87, Try.ntmps87
      go_wp2
      go_ret2
      exact ⟨_, rfl, Fresh.nil _ w, Upd.refl _ w⟩
    · by_cases c2 : 8 < size
      · go_enter Try.func87, Try.ntmps87
        go_wp2
        go_ret2
        exact ⟨_, rfl, Fresh.nil _ w, Upd.refl _ w⟩
      · by_cases c3 : at_ < 0
        · go_enter Try.func87, Try.ntmps87
          go_wp2
          go_ret2
          exact ⟨_, rfl, Fresh.nil _ w, Upd.refl _ w⟩
        · have c4 : bs.length - size < at_ := by omega
          go_enter Try.func87, Try.ntmps87
          go_wp2
          go_ret2
          exact ⟨_, rfl, Fresh.nil _ w, Upd.refl _ w⟩
  | true =>
    have hts : 1 ≤ size ∧ size ≤ 8 ∧ 0 ≤ at_ ∧ at_ + size ≤ bs.length := by simpa [thereB] using ht
    have hfi := rfits_any n size w h5 h6 hts.1 hts.2.1
    obtain ⟨hts1, hts2, hts3, hts4⟩ := hts
    cases hf : fitsB n size with
    | false =>
      rw [hf] at hfi
      have hE : putE bs.length at_ size n = 3 := by unfold putE; rw [ht, hf]; rfl
      have hL : putL bs at_ size n = [] := by unfold putL; rw [ht, hf]; rfl
      rw [hE, hL]
      clear ht hE hL hf h
      have c4 : ¬ bs.length - size < at_ := by omega
      go_enter Try.func87, Try.ntmps87
      go_wp2_with fail
      refine hfi.mono ?_
      rintro e w' ⟨rfl, rfl⟩
      go_wp2
      go_ret2
      exact ⟨_, rfl, Fresh.nil _ w, Upd.refl _ w⟩
    | true =>
      rw [hf] at hfi
      have hE : putE bs.length at_ size n = 0 := by unfold putE; rw [ht, hf]; rfl
      have hL : putL bs at_ size n = bs.take at_.toNat ++ numB n size.toNat ++ bs.drop (at_ + size).toNat := by unfold putL; rw [ht, hf]; rfl
      rw [hE, hL]
      clear ht hE hL hf
      obtain ⟨i, hi⟩ : ∃ i : Nat, (i : Int) = at_ := ⟨at_.toNat, by omega⟩
      obtain ⟨m, hm⟩ : ∃ m : Nat, (m : Int) = size := ⟨size.toNat, by omega⟩
      subst hi hm
      have c4 : ¬ bs.length - (m : Int) < (i : Int) := by omega
      have HF := Lib.hid hfi
      clear hfi
      go_enter Try.func87, Try.ntmps87
      go_wp2_with fail
      refine HF.out.mono ?_
      rintro e w' ⟨rfl, rfl⟩
      go_wp2_with (at_builtin; refine wpl_append_bytes rfl (.tmp 34) (.tmp 35) 22 rfl Try.underlying22 hi5 w.heap.size (.slice none 0 0) (.slice A bs.length cap) [] bs bs rfl rfl rfl (Fresh.nil _ _) h (Nat.le_refl _) (by simpa using hl) ?_; intro v2 w2 hf2 hu2 hr2)
      have hs2 : Same w w2 := hu2.mono fun i _ hi => by simp [room] at hi
      have hlen : i + m ≤ bs.length := by omega
      obtain ⟨b, off, cp, rfl, hcp⟩ : ∃ b off cp, v2 = .slice (some ⟨b, off, none⟩) bs.length cp ∧ bs.length ≤ cp := by
        rcases hf2.bs.cases with ⟨e, _⟩ | ⟨_, b, off, cp, rfl, e, _⟩
        · rw [e] at hlen; simp at hlen; omega
        · exact ⟨b, off, cp, rfl, e⟩
      have HLEN := Lib.hid hlen
      clear hlen hu2 hr2 h
      go_loopw [11] (fun v11 wr => ∃ k : Nat, k ≤ m ∧ v11 = .int .i64 k ∧ Fresh w.heap.size wr (.slice (some ⟨b, off, none⟩) bs.length cp) (bs.take i ++ (numB n m).take k ++ bs.drop (i + k)) ∧ Same w wr) (fun v11 _ => m - (intOf v11).toNat)
      case atStart => exact ⟨0, by omega, rfl, by simpa using hf2, hs2⟩
      case round =>
        obtain ⟨k, hk, rfl, hf, hs⟩ := hrel
        have hl2 : (bs.take i ++ (numB n m).take k ++ bs.drop (i + k)).length = bs.length := by
          have := HLEN.out
          simp [numB_length]
          omega
        by_cases hlt : k < m
        · obtain ⟨hcell, hfr⟩ := hf.at_ (i + k) (by have := HLEN.out; omega)
          obtain ⟨f1, f2, f3⟩ := hf.set (i + k) (by have := HLEN.out; omega) ((numB n m).getD k 0) _ (numB_at n m k hlt h5)
          rw [take_set_snoc _ _ _ _ _ (numB_length n m) hlt HLEN.out] at f1
          have hs3 := Same.into hs f2 fun j e => by rw [e]; exact f3
          have F1 := Lib.hid f1
          have S3 := Lib.hid hs3
          have g1 : (i : Int) + (k : Int) < (bs.length : Int) := by have := HLEN.out; omega
          have g2 : (8 * ((m : Int) - 1 - (k : Int))).toNat = 8 * (m - 1 - k) := by omega
          clear f1 f2 hs3 hf hl2
          go_wp2_with fail
          go_roundw
          case rel => exact ⟨k + 1, by omega, by go_num, F1.out, S3.out⟩
          case measure => simp [intOf]; omega
        · have hkm : k = m := by omega
          subst hkm
          have F1 := Lib.hid hf
          have S1 := Lib.hid hs
          clear hf hs hl2
          go_wp2_with fail
          go_ret2
          exact ⟨_, rfl, by rw [Int.toNat_natCast, Int.toNat_natCast, show ((i : Int) + (k : Int)).toNat = i + k by omega]; have := F1.out; rwa [List.take_of_length_le (l := numB n k) (i := k) (by rw [numB_length]; omega)] at this, S1.out⟩

theorem valB_take_snoc (L : List UInt8) (k : Nat) (hk : k < L.length) : valB (L.take (k + 1)) = valB (L.take k) * 256 + at8 L k := by
  rw [List.take_succ_eq_append_getElem hk, valB_snoc]
  unfold at8
  rw [List.getD_eq_getElem?_getD, List.getElem?_eq_getElem hk]
  rfl
/-- The bytes of a number's place: what the loop has gone through is a number that has room for one byte more. -/
theorem valB_room (L : List UInt8) (k : Nat) (hk : k < L.length) (h8 : L.length ≤ 8) : 0 ≤ valB (L.take k) ∧ valB (L.take k) * 256 < 18446744073709551616 := by
  have h := valB_range (L.take k)
  have hl : (L.take k).length ≤ 7 := by simp; omega
  have hp : (256 : Int) ^ (L.take k).length ≤ 72057594037927936 := by
    have h1 : 256 ^ (L.take k).length ≤ 256 ^ 7 := Nat.pow_le_pow_right (by decide) hl
    have h2 : ((256 ^ (L.take k).length : Nat) : Int) ≤ ((256 ^ 7 : Nat) : Int) := Int.ofNat_le.2 h1
    rw [Int.natCast_pow] at h2
    exact h2
  omega
theorem shl8_or (x c : Int) (h0 : 0 ≤ x) (h1 : x * 256 < 18446744073709551616) (h2 : 0 ≤ c) (h3 : c ≤ 255) : bits .or .u64 (x * 256) c = x * 256 + c := by
  obtain ⟨X, rfl⟩ := Int.eq_ofNat_of_zero_le h0
  obtain ⟨C, rfl⟩ := Int.eq_ofNat_of_zero_le h2
  rw [u64_or _ _ (by omega) (by omega) (by omega) (by omega)]
  have e : (((X : Int) * 256).toNat ||| ((C : Int)).toNat) = X * 256 + C := by
    have e1 : ((X : Int) * 256).toNat = 2 ^ 8 * X := by omega
    rw [e1, Int.toNat_natCast]
    have := Nat.two_pow_add_eq_or_of_lt (i := 8) (b := C) (by omega) X
    omega
  rw [e]
  omega
/-- field.Get. -/
theorem get_bs (v : Value) (bs : List UInt8) (at_ size : Int) (w : World) (h : Bs w v bs) (h1 : -9223372036854775808 ≤ at_) (h2 : at_ ≤ 9223372036854775807) (h3 : -9223372036854775808 ≤ size) (h4 : size ≤ 9223372036854775807) :
    Calls Try.prog 76 #[v, .int .i64 at_, .int .i64 size] w fun e w' => e = .returned (.tuple #[.int .u64 (getN bs at_ size), .int .i64 (getE bs.length at_ size)]) ∧ w = w' := by
  obtain ⟨A, cap, rfl, k1, k2, k3⟩ := id h
  have hth := there_any A bs.length cap at_ size w h1 h2 h3 h4 (by omega)
  cases ht : thereB bs.length at_ size with
  | false =>
    rw [ht] at hth
    have hE : getE bs.length at_ size = 1 := by unfold getE; rw [ht]; rfl
    have hN : getN bs at_ size = 0 := by unfold getN; rw [ht]; rfl
    rw [hE, hN]
    clear hE hN ht
    go_enter Try.func76, Try.ntmps76
    go_wp2_with fail
    refine hth.mono ?_
    rintro e w' ⟨rfl, rfl⟩
    go_wp2
    go_ret2
    exact ⟨rfl, rfl⟩
  | true =>
    rw [ht] at hth
    have hts : 1 ≤ size ∧ size ≤ 8 ∧ 0 ≤ at_ ∧ at_ + size ≤ bs.length := by simpa [thereB] using ht
    have hE : getE bs.length at_ size = 0 := by unfold getE; rw [ht]; rfl
    have hN : getN bs at_ size = valB ((bs.drop at_.toNat).take size.toNat) := by unfold getN; rw [ht]; rfl
    rw [hE, hN]
    clear hE hN ht
    obtain ⟨hts1, hts2, hts3, hts4⟩ := hts
    obtain ⟨i, hi⟩ : ∃ i : Nat, (i : Int) = at_ := ⟨at_.toNat, by omega⟩
    obtain ⟨m, hm⟩ : ∃ m : Nat, (m : Int) = size := ⟨size.toNat, by omega⟩
    subst hi hm
    have hlen : i + m ≤ bs.length := by omega
    obtain ⟨b, off, rfl, _⟩ := h.at_ 0 (by omega)
    rw [Int.toNat_natCast, Int.toNat_natCast]
    obtain ⟨L, hL⟩ : ∃ L, L = (bs.drop i).take m := ⟨_, rfl⟩
    have hLl : L.length = m := by rw [hL]; simp; omega
    have hcell : ∀ j, j < m → w.cell? ⟨b, off + i + j, none⟩ = some (.int .u8 (at8 L j)) := by
      obtain ⟨A', c', e, q1, q2, q3⟩ := h
      injection e with e1 e2 e3
      rcases q3 with q3 | ⟨b', o', e', q3⟩
      · rw [q3] at hlen; simp at hlen; omega
      · rw [e'] at e1
        injection e1 with e1
        injection e1 with e1 e4
        subst e1 e4
        intro j hj
        have := (q3.drop i).take m j (by rw [← hL]; omega)
        rw [← hL] at this
        exact this
    rw [← hL]
    have HH := Lib.hid hth
    have HLL := Lib.hid hLl
    clear hth hL hLl k3 h
    have hlen' : (i : Int) + (m : Int) ≤ (cap : Int) := by omega
    have c1 : ¬ cap = i := by omega
    go_enter Try.func76, Try.ntmps76
    go_wp2_with fail
    refine HH.out.mono ?_
    rintro e w' ⟨rfl, rfl⟩
    go_wp2_with fail
    go_loop [8, 23] (fun v8 v23 => ∃ k : Nat, k ≤ m ∧ v23 = .int .i64 k ∧ v8 = .int .u64 (valB (L.take k))) (fun _ v23 => m - (intOf v23).toNat)
    case atStart => exact ⟨0, by omega, rfl, rfl⟩
    case round =>
      obtain ⟨k, hk, rfl, rfl⟩ := hrel
      by_cases hlt : k < m
      · have hc := hcell k hlt
        obtain ⟨r1, r2⟩ := valB_room L k (by have := HLL.out; omega) (by have := HLL.out; omega)
        have r3 := at8_range L k
        have hv := valB_take_snoc L k (by have := HLL.out; omega)
        obtain ⟨X, hX⟩ : ∃ X, X = valB (L.take k) := ⟨_, rfl⟩
        rw [← hX] at r1 r2 hv ⊢
        have hor := shl8_or X (at8 L k) r1 r2 r3.1 r3.2
        have HV := Lib.hid hv
        have HX := Lib.hid hX
        have g1 : (k : Int) < (m : Int) := by omega
        clear hcell hv hX
        go_wp2_with fail
        go_round
        case rel => exact ⟨k + 1, by omega, by go_num, by rw [HV.out]⟩
        case measure => simp [intOf]; omega
      · have hkm : k = m := by omega
        subst hkm
        clear hcell
        go_wp2_with fail
        go_ret2
        exact ⟨by rw [List.take_of_length_le (l := L) (by have := HLL.out; omega)]; rfl, rfl⟩
/-- The reference's Get. -/
theorem rget_bs (v : Value) (bs : List UInt8) (at_ size : Int) (w : World) (h : Bs w v bs) (h1 : -9223372036854775808 ≤ at_) (h2 : at_ ≤ 9223372036854775807) (h3 : -9223372036854775808 ≤ size) (h4 : size ≤ 9223372036854775807) :
    Calls Try.prog 71 #[v, .int .i64 at_, .int .i64 size] w fun e w' => e = .returned (.tuple #[.int .u64 (getN bs at_ size), .int .i64 (getE bs.length at_ size)]) ∧ w = w' := by
  obtain ⟨A, cap, rfl, k1, k2, k3⟩ := id h
  cases ht : thereB bs.length at_ size with
  | false =>
    have hE : getE bs.length at_ size = 1 := by unfold getE; rw [ht]; rfl
    have hN : getN bs at_ size = 0 := by unfold getN; rw [ht]; rfl
    rw [hE, hN]
    have hts : ¬ (1 ≤ size ∧ size ≤ 8 ∧ 0 ≤ at_ ∧ at_ + size ≤ bs.length) := by simpa [thereB] using ht
    clear ht hE hN h
    by_cases c1 : size < 1
    · go_enter Try.func71, Try.ntmps71
      go_wp2
      go_ret2
      exact ⟨rfl, rfl⟩
    · by_cases c2 : 8 < size
      · go_enter Try.func71, Try.ntmps71
        go_wp2
        go_ret2
        exact ⟨rfl, rfl⟩
      · by_cases c3 : at_ < 0
        · go_enter Try.func71, Try.ntmps71
          go_wp2
          go_ret2
          exact ⟨rfl, rfl⟩
        · have c4 : bs.length - size < at_ := by omega
          go_enter Try.func71, Try.ntmps71
          go_wp2
          go_ret2
          exact ⟨rfl, rfl⟩
  | true =>
    have hts : 1 ≤ size ∧ size ≤ 8 ∧ 0 ≤ at_ ∧ at_ + size ≤ bs.length := by simpa [thereB] using ht
    have hE : getE bs.length at_ size = 0 := by unfold getE; rw [ht]; rfl
    have hN : getN bs at_ size = valB ((bs.drop at_.toNat).take size.toNat) := by unfold getN; rw [ht]; rfl
    rw [hE, hN]
    clear hE hN ht
    obtain ⟨hts1, hts2, hts3, hts4⟩ := hts
    obtain ⟨i, hi⟩ : ∃ i : Nat, (i : Int) = at_ := ⟨at_.toNat, by omega⟩
    obtain ⟨m, hm⟩ : ∃ m : Nat, (m : Int) = size := ⟨size.toNat, by omega⟩
    subst hi hm
    have hlen : i + m ≤ bs.length := by omega
    obtain ⟨b, off, rfl, _⟩ := h.at_ 0 (by omega)
    rw [Int.toNat_natCast, Int.toNat_natCast]
    obtain ⟨L, hL⟩ : ∃ L, L = (bs.drop i).take m := ⟨_, rfl⟩
    have hLl : L.length = m := by rw [hL]; simp; omega
    have hcell : ∀ j, j < m → w.cell? ⟨b, off + i + j, none⟩ = some (.int .u8 (at8 L j)) := by
      obtain ⟨A', c', e, q1, q2, q3⟩ := h
      injection e with e1 e2 e3
      rcases q3 with q3 | ⟨b', o', e', q3⟩
      · rw [q3] at hlen; simp at hlen; omega
      · rw [e'] at e1
        injection e1 with e1
        injection e1 with e1 e4
        subst e1 e4
        intro j hj
        have := (q3.drop i).take m j (by rw [← hL]; omega)
        rw [← hL] at this
        exact this
    rw [← hL]
    have HLL := Lib.hid hLl
    clear hL hLl k3 h
    have c4 : ¬ bs.length - (m : Int) < (i : Int) := by omega
    go_enter Try.func71, Try.ntmps71
    go_wp2_with fail
    go_loop [8, 9] (fun v8 v23 => ∃ k : Nat, k ≤ m ∧ v23 = .int .i64 k ∧ v8 = .int .u64 (valB (L.take k))) (fun _ v23 => m - (intOf v23).toNat)
    case atStart => exact ⟨0, by omega, rfl, rfl⟩
    case round =>
      obtain ⟨k, hk, rfl, rfl⟩ := hrel
      by_cases hlt : k < m
      · have hc := hcell k hlt
        rw [Nat.add_assoc] at hc
        have g2 : (i : Int) + (k : Int) < (bs.length : Int) := by omega
        obtain ⟨r1, r2⟩ := valB_room L k (by have := HLL.out; omega) (by have := HLL.out; omega)
        have r3 := at8_range L k
        have hv := valB_take_snoc L k (by have := HLL.out; omega)
        obtain ⟨X, hX⟩ : ∃ X, X = valB (L.take k) := ⟨_, rfl⟩
        rw [← hX] at r1 r2 hv ⊢
        have hor := shl8_or X (at8 L k) r1 r2 r3.1 r3.2
        have HV := Lib.hid hv
        have HX := Lib.hid hX
        have g1 : (k : Int) < (m : Int) := by omega
        clear hcell hv hX
        go_wp2_with fail
        go_round
        case rel => exact ⟨k + 1, by omega, by go_num, by rw [HV.out]⟩
        case measure => simp [intOf]; omega
      · have hkm : k = m := by omega
        subst hkm
        clear hcell
        go_wp2_with fail
        go_ret2
        exact ⟨by rw [List.take_of_length_le (l := L) (by have := HLL.out; omega)]; rfl, rfl⟩
end
section
open Go.RowKit
set_option linter.unusedVariables false
set_option linter.unusedSimpArgs false

theorem u32_max : IntKind.u32.max = u32v (~~~ 0#32) := by decide
theorem u32_not (r : BitVec 32) : bits .xor .u32 IntKind.u32.max (u32v r) = u32v (~~~ r) := by
  rw [u32_max, u32_xor, BitVec.xor_comm, ← not_eq_xor]

theorem u32_xor8 (r : BitVec 32) (bs : List UInt8) (k : Nat) : bits .xor .u32 (u32v r) (at8 bs k) = u32v (r ^^^ (bs.getD k 0).toBitVec.setWidth 32) := by
  rw [← u32_xor]
  have h : at8 bs k = u32v ((bs.getD k 0).toBitVec.setWidth 32) := by
    unfold at8 u32v
    rw [BitVec.toNat_setWidth]
    have := (bs.getD k 0).toNat_lt
    show _ = (((bs.getD k 0).toNat % 2 ^ 32 : Nat) : Int)
    omega
  rw [h]
theorem u32_half (r : BitVec 32) : u32v r / (2 : Int) = u32v (r >>> 1) := by
  unfold u32v
  rw [BitVec.toNat_ushiftRight, Nat.shiftRight_eq_div_pow]
  omega
theorem crc_step (r : BitVec 32) : bits .xor .u32 (u32v r / 2) (bits .and .u32 2197175160 (-bits .and .u32 (u32v r) 1 % 4294967296)) = u32v (crcL r) := by
  have h1 : (1 : Int) = u32v 1#32 := by decide
  have hp : (2197175160 : Int) = u32v 0x82f63b78#32 := by decide
  have hn : -bits .and .u32 (u32v r) 1 % 4294967296 = u32v (if r.getLsbD 0 then ~~~ 0#32 else 0#32) := by
    rw [h1, u32_and]
    have e : r &&& 1#32 = if r.getLsbD 0 then 1#32 else 0#32 := by
      apply BitVec.eq_of_getLsbD_eq
      intro i hi
      rw [BitVec.getLsbD_and]
      cases i with
      | zero => cases r.getLsbD 0 <;> simp
      | succ i => cases r.getLsbD 0 <;> simp
    rw [e]
    cases r.getLsbD 0 <;> decide
  rw [hn, u32_half, hp, u32_and, u32_xor]
  congr 1
  unfold crcL
  cases r.getLsbD 0 <;> simp

theorem crcF_snoc (r : BitVec 32) (bs : List UInt8) (k : Nat) (h : k < bs.length) : crcN 8 (crcF r (bs.take k) ^^^ (bs.getD k 0).toBitVec.setWidth 32) = crcF r (bs.take (k + 1)) := by
  rw [List.take_succ_eq_append_getElem h, crcF_append]
  rw [List.getD_eq_getElem?_getD, List.getElem?_eq_getElem h]
  rfl

theorem more_any (b off n cap : Nat) (bs : List UInt8) (r : BitVec 32) (w : World) (hn : bs.length = n) (hm : n ≤ 9223372036854775807) (hc : BytesAt w b off bs) :
    Calls Try.prog 52 #[.int .u32 (u32v r), .slice (some ⟨b, off, none⟩) n cap] w fun e w' => e = .returned (.int .u32 (u32v (crcMore r bs))) ∧ w = w' := by
  have hr := u32v_range r
  go_enter Try.func52, Try.ntmps52
  go_wp2
  go_loop [5, 12] (fun r' i => ∃ k : Nat, k ≤ n ∧ i = .int .i64 k ∧ r' = .int .u32 (u32v (crcF (~~~ r) (bs.take k)))) (fun _ i => n - (intOf i).toNat)
  case atStart => exact ⟨0, by omega, rfl, by rw [u32_not]; rfl⟩
  case round =>
    obtain ⟨k, hk, rfl, rfl⟩ := hrel
    have hcell : k < n → w.cell? ⟨b, off + k, none⟩ = some (.int .u8 (at8 bs k)) := fun h => hc k (by omega)
    obtain ⟨R, hR⟩ : ∃ R, R = crcF (~~~ r) (bs.take k) := ⟨_, rfl⟩
    rw [← hR]
    have HR := Lib.hid hR
    clear hR
    have h1 := u32v_range R
    have h2 := at8_range bs k
    go_wp2
    · rw [u32_xor8]
      obtain ⟨X, hX⟩ : ∃ X, X = R ^^^ (bs.getD k 0).toBitVec.setWidth 32 := ⟨_, rfl⟩
      rw [← hX]
      have HX := Lib.hid hX
      clear hX
      go_loop [5, 20] (fun r' i => ∃ j : Nat, j ≤ 8 ∧ i = .int .i64 j ∧ r' = .int .u32 (u32v (crcN j X))) (fun _ i => 8 - (intOf i).toNat)
      case atStart => exact ⟨0, by omega, rfl, rfl⟩
      case round =>
        obtain ⟨j, hj, rfl, rfl⟩ := hrel
        obtain ⟨Y, hY⟩ : ∃ Y, Y = crcN j X := ⟨_, rfl⟩
        rw [← hY]
        have HY := Lib.hid hY
        clear hY
        have h3 := u32v_range Y
        go_wp2
        · go_round
          case rel => exact ⟨j + 1, by omega, by go_num, by rw [crc_step, HY.out, ← crcN_succ]⟩
          case measure => simp [intOf]; omega
        · go_round
          case rel =>
            have hj8 : j = 8 := by omega
            exact ⟨k + 1, by omega, by go_num, by rw [HY.out, hj8, HX.out, HR.out, crcF_snoc _ _ _ (by omega)]⟩
          case measure => simp [intOf]; omega
    · have hge : ¬ k < n := by assumption
      go_ret
      exact ⟨ret_int (by rw [u32_not, HR.out, List.take_of_length_le (by omega)]; rfl), rfl⟩

theorem more_empty (A : Option Addr) (cap : Nat) (r : BitVec 32) (w : World) :
    Calls Try.prog 52 #[.int .u32 (u32v r), .slice A 0 cap] w fun e w' => e = .returned (.int .u32 (u32v (crcMore r []))) ∧ w = w' := by
  have hr := u32v_range r
  go_enter Try.func52, Try.ntmps52
  go_wp2
  refine wp_loop_rounds 1 ?_
  rw [rounds_succ]
  go_wp2
  go_ret
  exact ⟨ret_int (by rw [u32_not, u32_not]; rfl), rfl⟩
/-- sums.More, of whatever slice of bytes. -/
theorem more_bs (v : Value) (bs : List UInt8) (r : BitVec 32) (w : World) (h : Bs w v bs) :
    Calls Try.prog 52 #[.int .u32 (u32v r), v] w fun e w' => e = .returned (.int .u32 (u32v (crcMore r bs))) ∧ w = w' := by
  rcases h.cases with ⟨rfl, A, cap, rfl, h1⟩ | ⟨h0, b, off, cap, rfl, h1, h2, h3⟩
  · exact more_empty A cap r w
  · exact more_any b off bs.length cap bs r w rfl (by omega) h3
theorem u32v_zero : u32v 0#32 = 0 := by decide
/-- sums.Sum. -/
theorem sum_bs (v : Value) (bs : List UInt8) (w : World) (h : Bs w v bs) :
    Calls Try.prog 31 #[v] w fun e w' => e = .returned (.int .u32 (u32v (crcSum bs))) ∧ w = w' := by
  have hm := more_bs v bs 0#32 w h
  rw [u32v_zero] at hm
  go_enter Try.func31, Try.ntmps31
  go_wp2_with fail
  refine hm.mono ?_
  rintro e w' ⟨rfl, rfl⟩
  go_wp2
  go_ret
  exact ⟨rfl, rfl⟩
end
section
open Go.RowKit
set_option linter.unusedVariables false
set_option linter.unusedSimpArgs false

theorem dig_at (s : BitVec 32) : at8 (crcDigest s) 0 = u32v s % 256 ∧ at8 (crcDigest s) 1 = u32v s / 256 % 256 ∧ at8 (crcDigest s) 2 = u32v s / 65536 % 256 ∧ at8 (crcDigest s) 3 = u32v s / 16777216 := by
  have h := s.isLt
  unfold at8 crcDigest u32v
  simp [UInt8.toNat]
  simp only [Int.shiftRight_eq_div_pow]
  omega
theorem crcDigest_length (s : BitVec 32) : (crcDigest s).length = 4 := rfl
theorem at8_eq {xs ys : List UInt8} (hl : xs.length = ys.length) (h : ∀ j, j < xs.length → at8 xs j = at8 ys j) : xs = ys := by
  apply List.ext_getElem hl
  intro j h1 h2
  have := h j h1
  unfold at8 at this
  rw [List.getD_eq_getElem?_getD, List.getD_eq_getElem?_getD, List.getElem?_eq_getElem h1, List.getElem?_eq_getElem h2] at this
  apply UInt8.toNat_inj.1
  simpa [← Int.ofNat_inj] using this

/-- Nothing but orders drawn. -/
def Drew (w w' : World) : Prop := ∃ n, w' = w.drewN n
theorem Drew.refl (w : World) : Drew w w := ⟨0, rfl⟩
theorem Drew.step {w w' : World} (h : Drew w w') (n : Nat) : Drew w (w'.drewN n) := by
  obtain ⟨m, rfl⟩ := h
  exact ⟨m + n, World.drewN_drewN ..⟩
theorem Drew.same {w w' : World} (h : Drew w w') : Same w w' := by
  obtain ⟨n, rfl⟩ := h
  exact (Upd.refl _ w).drewN n
theorem Drew.quiet {P : Program} {f : FuncId} {args : Array Value} {w : World} {n : Nat} {v : Value}
    (h : Calls P f args (w.drewN n) fun e w' => e = .returned v ∧ Drew (w.drewN n) w') : Calls P f args (w.drewN n) fun e w'' => e = .returned v ∧ ∃ m, w'' = w.drewN m :=
  Calls.quiet_of (h.mono fun _ _ ⟨he, hm⟩ => ⟨he, hm⟩)
theorem eq_of_at {xs ys : List UInt8} {n : Nat} (hn : n = xs.length) (hl : xs.length = ys.length) (h : ∀ i, i < n → at8 xs i = at8 ys i) : true = eqB xs ys := by
  unfold eqB
  rw [at8_eq hl fun j hj => h j (by omega)]
  simp
theorem ne_of_at {xs ys : List UInt8} {k : Nat} (h : at8 xs k ≠ at8 ys k) : false = eqB xs ys := by
  unfold eqB
  symm
  rw [decide_eq_false_iff_not]
  intro e
  rw [e] at h
  exact h rfl

end
section
open Go.RowKit
set_option linter.unusedVariables false
set_option linter.unusedSimpArgs false

def padOf (n : Int) : Int := if n < 0 then 0 else (4 - n % 4) % 4
theorem i64_and3 (x : Int) : bits .and .i64 x 3 = x % 4 := by
  show IntKind.i64.wrap ((BitVec.ofInt 64 x &&& BitVec.ofInt 64 3).toNat : Int) = _
  have h : (BitVec.ofInt 64 x &&& BitVec.ofInt 64 3).toNat = (x % 4).toNat := by
    rw [BitVec.toNat_and]
    have e : (BitVec.ofInt 64 3).toNat = 2 ^ 2 - 1 := by decide
    rw [e, Nat.and_two_pow_sub_one_eq_mod, BitVec.toNat_ofInt]
    omega
  rw [h]
  have := IntKind.wrap_i64 (x % 4).toNat
  rw [this]
  omega
theorem padOf_range (n : Int) : 0 ≤ padOf n ∧ padOf n ≤ 3 := by unfold padOf; split <;> omega
/-- Count: a number from 0 to one less than most. -/
theorem count_any (n m : Int) (w : World) (hm : 0 < m) (hm2 : m ≤ 4611686018427387904) (hn : -9223372036854775808 ≤ n) (hn2 : n ≤ 9223372036854775807) :
    Calls Try.prog 22 #[.int .i64 n, .int .i64 m] w fun e w' => e = .returned (.int .i64 (n % m)) ∧ w = w' := by
  by_cases h0 : 0 ≤ n
  · go_enter Try.func22, Try.ntmps22
    go_wp2
    · have h1 : n % m < 0 := by assumption
      have h2 := Int.emod_nonneg n (show m ≠ 0 by omega)
      omega
    · go_ret
      exact ⟨rfl, rfl⟩
  · have ht : n.tmod m = -((-n) % m) := by rw [← Int.tmod_eq_emod_of_nonneg (by omega), ← Int.neg_tmod, Int.neg_neg]
    have h3 := Int.emod_nonneg (-n) (show m ≠ 0 by omega)
    have h4 := Int.emod_lt_of_pos (-n) hm
    have h5 : n.tmod m ≤ 0 ∧ -m < n.tmod m := by omega
    have h6 : n % m = if n.tmod m < 0 then n.tmod m + m else n.tmod m := by
      have e1 := Int.mul_tdiv_add_tmod n m
      have e2 := Int.mul_ediv_add_emod n m
      split
      · have : n % m = (n.tmod m + m) % m := by
          rw [Int.add_emod_right]
          conv => lhs; rw [← e1]
          rw [Int.add_emod, Int.mul_emod_right]
          simp
        rw [this]
        exact Int.emod_eq_of_lt (by omega) (by omega)
      · have h7 : n.tmod m = 0 := by omega
        have : n % m = (n.tmod m) % m := by
          conv => lhs; rw [← e1]
          rw [Int.add_emod, Int.mul_emod_right]
          simp
        rw [this, h7]
        simp
    have H6 := Lib.hid h6
    clear h6 ht
    go_enter Try.func22, Try.ntmps22
    go_wp2
    · have h7 : n.tmod m < 0 := by assumption
      go_ret
      exact ⟨ret_int (by rw [H6.out, if_pos h7]), rfl⟩
    · have h7 : 0 ≤ n.tmod m := by assumption
      go_ret
      exact ⟨ret_int (by rw [H6.out, if_neg (by omega)]), rfl⟩

theorem known_sum : u32v (crcSum [49, 50, 51, 52, 53, 54, 55, 56, 57]) = 3808858755 := by decide +kernel
theorem known_digest : strB (crcDigest (crcSum (List.replicate 32 0))) = ⟨#[170, 54, 145, 138]⟩ := by decide +kernel
def zeros32 : Array Value := madeCells #[.int .u8 0] 32
end
section
open Go.RowKit
set_option linter.unusedVariables false
set_option linter.unusedSimpArgs false

section
variable {P : Program}
/-- append(nil, make([]byte, n)...). -/
theorem run_append_zeros {t e it : TypeId} {i : TypeInfo} (ty : TypeId) (ht : P.underlying t = some (.slice e)) (hit : P.underlying it = some (.int .i64)) (hi : P.info? e = some i) (hz : i.zero = some (.int .u8 0)) (hsz : i.size = 1) (hby : i.bytes = 1)
    (w : World) (n : Nat) (hn : 0 < n) (hb : n ≤ 200000000000000) :
    ∃ g cap w', (Builtin.append_ #[t, it] ty #[.slice none 0 0, .int .i64 n]).run P w = .ok (.slice (some ⟨g, 0, none⟩) n cap) w' ∧ n ≤ cap ∧ cap ≤ 9223372036854775807 ∧ Fresh w.heap.size w' (.slice (some ⟨g, 0, none⟩) 0 cap) [] ∧ Same w w' := by
  have hge := grownCap_ge w n 0 e
  have hcm : grownCap w n 0 e ≤ maxLen := grownCap_le_maxLen w n 0 e (by simp only [maxLen]; omega)
  have hw : IntKind.i64.wrap (n : Int) = (n : Int) := by rw [IntKind.wrap_i64]; omega
  have h1 : ¬ ((n : Int) < 0) := by omega
  have h2 : ¬ (281474976710656 < (n : Int)) := by omega
  have h3 : ¬ (n ≤ 0) := by omega
  have h4 : ¬ (9223372036854775807 < (n : Int)) := by omega
  have h5 : Builtin.nextslicecap n 0 = n := by unfold Builtin.nextslicecap; rw [if_pos (by omega)]
  have h6 : ¬ (281474976710656 < n) := by omega
  have h7 : n ≠ 0 := by omega
  refine ⟨w.heap.size, grownCap w n 0 e, w.drew.alloc (.cells (Builtin.zeroCells #[.int .u8 0] n ++ Builtin.zeroCells #[.int .u8 0] (grownCap w n 0 e - n)) e), ?_, hge, by simp only [maxLen] at hcm; omega, ?_, ((Upd.refl _ w).drew).alloc _⟩
  · have hcells : (Value.int IntKind.u8 0).cells = #[.int .u8 0] := rfl
    have hf : (Builtin.firstCells 1 0 (.slice none 0 0)).run P w.drew = .ok #[] w.drew := run_firstCells_none w.drew 1 0 0 0
    have hasint : ∀ w, (asInt (.int .i64 (n : Int))).run P w = .ok (n : Int) w := fun w => rfl
    simp [Builtin.append_, run_underlying ht, run_underlying hit, sizeOf, typeInfo, zeroValue, hi, hz, hsz, hby, Builtin.lenOf, hw, hasint, h1, h2, h3, h4, h5, h6, h7, Question.forced, hf, newRow, grownCap, hcells]
  · refine (Own.lit (w := w.drew) (C := Builtin.zeroCells #[.int .u8 0] n ++ Builtin.zeroCells #[.int .u8 0] (grownCap w n 0 e - n)) (t := e) (cs := []) (g := w.heap.size) (n := 0) (cap := grownCap w n 0 e) (sz := 1) (base := w.heap.size) rfl (Nat.le_refl _) (fun j u h => by simp at h) rfl (by omega) (by simp only [maxLen] at hcm; omega) (by simp [size_zeroCells]; omega))
/-- The same at its place in a walk. -/
theorem wpl_append_zeros {ops : Array Oper} {rest : List Oper} {o : Oper} {a : Act} {Q : Exit → Act → World → Prop} {w : World}
    (hg : o.guard = none) (s x : Operand) (t it : TypeId) (hop : o.op = Op.call { callee := Callee.builtin Builtin.append, args := #[s, x], argTypes := #[t, it] })
    {e : TypeId} (ht : P.underlying t = some (.slice e)) (hit : P.underlying it = some (.int .i64)) (hinfo : (P.info? e).map (fun i => (i.zero, i.size, i.bytes)) = some (some (.int .u8 0), 1, 1))
    (n : Nat) (hvs : a.eval s = .slice none 0 0) (hux : a.eval x = .int .i64 n) (hn : 0 < n) (hb : n ≤ 200000000000000)
    (h : ∀ g cap w', n ≤ cap → cap ≤ 9223372036854775807 → Fresh w.heap.size w' (.slice (some ⟨g, 0, none⟩) 0 cap) [] → Same w w' → wpList P ops Q rest (a.put o.dst (.slice (some ⟨g, 0, none⟩) n cap)) w') :
    wpList P ops Q (o :: rest) a w := by
  obtain ⟨i, hi, hzz⟩ := Option.map_eq_some_iff.1 hinfo
  simp only [Prod.mk.injEq] at hzz
  obtain ⟨hz0, hz1, hz2⟩ := hzz
  obtain ⟨g, cap, w', hrun, r1, r2, r3, r4⟩ := run_append_zeros (P := P) o.type ht hit hi hz0 hz1 hz2 w n hn hb
  refine wpList_plain hg fun K hK' => ?_
  unfold Oper.wp
  simp [execOp, hop, resolve, invoke, builtin, hvs, hux, hrun, Result.andThen]
  exact hK' _ _ (h g cap w' r1 r2 r3 r4)
end
theorem Fresh.cut {base : Nat} {w : World} {A : Option Addr} {n cap : Nat} {xs : List UInt8} (h : Fresh base w (.slice A n cap) xs) (k : Nat) (hk : k ≤ n) : Fresh base w (.slice A k cap) (xs.take k) := by
  obtain ⟨A', n', cap', e, h1, h2, h3, h4⟩ := h
  injection e with e1 e2 e3
  subst e1 e2 e3
  have hn : xs.length = n := by simpa using h1
  refine ⟨_, k, cap, rfl, by simp; omega, by omega, h3, ?_⟩
  rcases h4 with h4 | ⟨b, off, e1, hb, hc, hr⟩
  · exact .inl h4
  · refine .inr ⟨b, off, e1, hb, fun j u hj => hc j u ?_, hr⟩
    rw [List.map_take, List.getElem?_take] at hj
    split at hj
    · exact hj
    · cases hj
/-- slices.Grow of no row. -/
theorem grow_nil (n : Nat) (w : World) (hn : n ≤ 200000000000000) :
    Calls Try.prog 62 #[.slice none 0 0, .int .i64 n] w fun e w' => ∃ v', e = .returned v' ∧ Fresh w.heap.size w' v' [] ∧ Same w w' := by
  by_cases h0 : n = 0
  · subst h0
    go_enter Try.func62, Try.ntmps62
    go_wp2
    go_ret
    exact ⟨_, rfl, Fresh.nil _ _, Upd.refl _ w⟩
  · have c1 : ¬ ((n : Int) < 0) := by omega
    have c2 : (0 : Int) < (n : Int) := by omega
    go_enter Try.func62, Try.ntmps62
    go_wp2_with (at_builtin; refine wpl_append_zeros rfl (.tmp 20) (.tmp 21) 22 3 rfl Try.underlying22 Try.underlying3 li5 n rfl (by simp [Act.eval]) (by omega) hn ?_; intro g cap w2 q1 q2 q3 q4)
    go_ret
    exact ⟨_, rfl, q3, q4⟩
/-- A row of rows of bytes. -/
def RowsAt (w : World) (v : Value) (ss : List (Value × List UInt8)) : Prop := Rdr w v 1 (ss.map (·.1)) ∧ ∀ p ∈ ss, Bs w p.1 p.2
theorem RowsAt.same {w w' : World} {v : Value} {ss : List (Value × List UInt8)} (h : RowsAt w v ss) (hs : Same w w') : RowsAt w' v ss := ⟨h.1.same hs, fun p hp => (h.2 p hp).same hs⟩
def lenL (ss : List (Value × List UInt8)) : Nat := (ss.map (fun p => p.2.length)).sum
def joinL (ss : List (Value × List UInt8)) : List UInt8 := ss.flatMap (·.2)
theorem lenL_succ (ss : List (Value × List UInt8)) (k : Nat) (h : k < ss.length) : lenL (ss.take (k + 1)) = lenL (ss.take k) + (ss[k]'h).2.length := by
  unfold lenL
  rw [List.take_succ_eq_append_getElem h, List.map_append, List.sum_append]
  simp
theorem joinL_succ (ss : List (Value × List UInt8)) (k : Nat) (h : k < ss.length) : joinL (ss.take (k + 1)) = joinL (ss.take k) ++ (ss[k]'h).2 := by
  unfold joinL
  rw [List.take_succ_eq_append_getElem h, List.flatMap_append]
  simp
theorem lenL_take (ss : List (Value × List UInt8)) (k : Nat) : lenL (ss.take k) ≤ lenL ss := by
  have h := congrArg lenL (List.take_append_drop k ss)
  unfold lenL at h ⊢
  rw [List.map_append, List.sum_append] at h
  omega
theorem joinL_length (ss : List (Value × List UInt8)) : (joinL ss).length = lenL ss := by
  unfold joinL lenL
  rw [List.length_flatMap]
theorem Rdr.at_ {w : World} {A : Option Addr} {n cap : Nat} {cs : List Value} (h : Rdr w (.slice A n cap) 1 cs) (k : Nat) (hk : k < cs.length) : ∃ b off, A = some ⟨b, off, none⟩ ∧ w.cell? ⟨b, off + k, none⟩ = some (cs[k]'hk) := by
  obtain ⟨A', n', cap', e, h1, h2, h3, h4⟩ := h
  injection e with e1 e2 e3
  subst e1 e2 e3
  rcases h4 with rfl | ⟨b, off, rfl, hc⟩
  · simp at hk
  · exact ⟨b, off, rfl, hc k _ (List.getElem?_eq_getElem hk)⟩
/-- slices.Concat. -/
theorem concat_bs (v : Value) (ss : List (Value × List UInt8)) (w : World) (h : RowsAt w v ss) (hl : lenL ss ≤ 200000000000000) :
    Calls Try.prog 40 #[v] w fun e w' => ∃ v', e = .returned v' ∧ Fresh w.heap.size w' v' (joinL ss) ∧ Same w w' := by
  obtain ⟨A, n, cap, rfl, q1, q2, q3, q4⟩ := id h.1
  have hn : n = ss.length := by simpa using q1.symm
  have H := Lib.hid h
  have HN := Lib.hid hn
  clear q1 q4 h hn
  go_enter Try.func40, Try.ntmps40
  go_wp2_with fail
  go_loop [3, 11] (fun v3 v11 => ∃ k : Nat, k ≤ n ∧ v11 = .int .i64 k ∧ v3 = .int .i64 (lenL (ss.take k) : Nat)) (fun _ v11 => n - (intOf v11).toNat)
  case atStart => exact ⟨0, by omega, rfl, rfl⟩
  case round =>
    obtain ⟨k, hk, rfl, rfl⟩ := hrel
    by_cases hlt : k < n
    · have hks : k < ss.length := by have := HN.out; omega
      obtain ⟨b, off, rfl, hcell⟩ := Rdr.at_ H.out.1 k (by simpa using hks)
      have hbs := H.out.2 (ss[k]'hks) (List.getElem_mem hks)
      rw [List.getElem_map] at hcell
      have hsucc := lenL_succ ss k hks
      have hle := lenL_take ss (k + 1)
      obtain ⟨B, c, e0, _⟩ := hbs
      rw [e0] at hcell
      obtain ⟨m, hm⟩ : ∃ m, m = (ss[k]'hks).2.length := ⟨_, rfl⟩
      obtain ⟨M, hM⟩ : ∃ M, M = lenL (ss.take k) := ⟨_, rfl⟩
      rw [← hm] at hcell hsucc
      rw [← hM] at hsucc ⊢
      have hmm : M + m ≤ 200000000000000 := by omega
      have HS := Lib.hid hsucc
      have g1 : (k : Int) < (n : Int) := by omega
      clear hle hsucc hm hM e0
      go_wp2_with fail
      go_round
      case rel => exact ⟨k + 1, by omega, by go_num, by rw [HS.out]; go_num⟩
      case measure => simp [intOf]; omega
    · obtain rfl : k = n := by omega
      have hle := lenL_take ss k
      obtain ⟨M, hM⟩ : ∃ M, M = lenL (ss.take k) := ⟨_, rfl⟩
      rw [← hM] at hle ⊢
      clear hM
      go_wp2_with fail
      refine (grow_nil M w (by omega)).mono ?_
      rintro e w1 ⟨v1, rfl, hf1, hs1⟩
      go_wp2_with fail
      go_loopw [6, 27] (fun v6 v27 wr => ∃ j : Nat, j ≤ k ∧ v27 = .int .i64 j ∧ Fresh w.heap.size wr v6 (joinL (ss.take j)) ∧ Same w wr) (fun _ v27 _ => k - (intOf v27).toNat)
      case atStart => exact ⟨0, by omega, rfl, hf1, hs1⟩
      case round =>
        obtain ⟨j, hj, rfl, hf, hs⟩ := hrel
        by_cases hlt2 : j < k
        · have hks : j < ss.length := by have := HN.out; omega
          have hh := H.out.same hs
          obtain ⟨b, off, rfl, hcell⟩ := Rdr.at_ hh.1 j (by simpa using hks)
          have hbs := hh.2 (ss[j]'hks) (List.getElem_mem hks)
          rw [List.getElem_map] at hcell
          have hsucc := joinL_succ ss j hks
          have hlen := joinL_length (ss.take (j + 1))
          have hle := lenL_take ss (j + 1)
          have HB := Lib.hid hbs
          obtain ⟨X, hX⟩ : ∃ X, X = (ss[j]'hks).1 := ⟨_, rfl⟩
          obtain ⟨ys, hys⟩ : ∃ X, X = (ss[j]'hks).2 := ⟨_, rfl⟩
          rw [← hX] at hcell hbs
          rw [← hys] at hbs hsucc
          rw [hsucc] at hlen
          have g1 : (j : Int) < (k : Int) := by omega
          have hb2 : (joinL (ss.take j)).length + ys.length ≤ 200000000000000 := by rw [List.length_append] at hlen; omega
          have HS := Lib.hid hsucc
          have HF := Lib.hid hf
          have HH := Lib.hid hbs
          have hsz := hs.size
          clear hX hys HB hbs hf hh hsucc hlen hle
          go_wp2_with (at_builtin; refine wpl_append_bytes rfl (.tmp 31) (.tmp 32) 22 rfl Try.underlying22 li5 w.heap.size u6 X _ ys _ rfl rfl rfl HF.out HH.out hsz hb2 ?_; intro v3 w3 hf3 hu3 hr3)
          go_roundw
          case rel => exact ⟨j + 1, by omega, by go_num, by rw [HS.out]; exact hf3, Same.row hs HF.out hu3⟩
          case measure => simp [intOf]; omega
        · obtain rfl : j = k := by omega
          have HF := Lib.hid hf
          clear hf
          go_wp2_with fail
          go_ret
          refine ⟨_, rfl, ?_, hs⟩
          have := HF.out
          rwa [List.take_of_length_le (by have := HN.out; omega)] at this
end
section
open Go.RowKit
set_option linter.unusedVariables false
set_option linter.unusedSimpArgs false

def rightB (size : Int) : Bool := decide (size = 1 ∨ size = 2 ∨ size = 4)
def addOk (size : Int) (n : Nat) : Bool := decide (n ≤ 65536) && fitsB n size
def addL (bs : List UInt8) (size : Int) (ps : List UInt8) : List UInt8 := if rightB size then (if addOk size ps.length then bs ++ numB ps.length size.toNat ++ ps else []) else []
def addE (size : Int) (n : Nat) : Int := if rightB size then (if addOk size n then 0 else 3) else 1
theorem right_any (size : Int) (w : World) :
    Calls Try.prog 73 #[.int .i64 size] w fun e w' => e = .returned (.bool (rightB size)) ∧ w = w' := by
  unfold rightB
  by_cases h1 : size = 1
  · subst h1
    go_enter Try.func73, Try.ntmps73
    go_wp2
    go_ret
    exact ⟨rfl, rfl⟩
  · by_cases h2 : size = 2
    · subst h2
      go_enter Try.func73, Try.ntmps73
      go_wp2
      go_ret
      exact ⟨rfl, rfl⟩
    · by_cases h3 : size = 4
      · subst h3
        go_enter Try.func73, Try.ntmps73
        go_wp2
        go_ret
        exact ⟨rfl, rfl⟩
      · have g1 : (size == 1) = false := by simpa using h1
        have g2 : (size == 2) = false := by simpa using h2
        have g3 : (size == 4) = false := by simpa using h3
        go_enter Try.func73, Try.ntmps73
        go_wp2
        go_ret
        exact ⟨ret_bool (by simp [h1, h2, h3]), rfl⟩
theorem Rdr.lit (w : World) (C : Array Value) (t : TypeId) (g n : Nat) (hg : g = w.heap.size) (hs : C.size = n) (hn : n ≤ 9223372036854775807) : Rdr (w.alloc (.cells C t)) (.slice (some ⟨g, 0, none⟩) n n) 1 C.toList :=
  (Own.lit w C t C.toList g n n 1 0 hg (Nat.zero_le _) (fun j u h => by simpa using h) (by simpa using hs) (Nat.le_refl _) hn (by omega)).rdr
/-- field.Add. -/
theorem add_bs (v u : Value) (bs ps : List UInt8) (size : Int) (w : World) (h : Bs w v bs) (hu : Bs w u ps) (hl : bs.length ≤ 140737488351232) (hl2 : ps.length ≤ 140737488351232) :
    Calls Try.prog 54 #[v, .int .i64 size, u] w fun e w' => ∃ v', e = .returned (.tuple #[v', .int .i64 (addE size ps.length)]) ∧ Fresh w.heap.size w' v' (addL bs size ps) ∧ Same w w' := by
  have hr := right_any size w
  obtain ⟨A, cap, rfl, k1, k2, k3⟩ := id hu
  cases ht : rightB size with
  | false =>
    rw [ht] at hr
    have hE : addE size ps.length = 1 := by unfold addE; rw [ht]; rfl
    have hL : addL bs size ps = [] := by unfold addL; rw [ht]; rfl
    rw [hE, hL]
    clear k3
    go_enter Try.func54, Try.ntmps54
    go_wp2_with fail
    refine hr.mono ?_
    rintro e w' ⟨rfl, rfl⟩
    go_wp2
    go_ret2
    exact ⟨_, rfl, Fresh.nil _ w, Upd.refl _ w⟩
  | true =>
    rw [ht] at hr
    have hs : size = 1 ∨ size = 2 ∨ size = 4 := by simpa [rightB] using ht
    have hfi := fits_any ps.length size w (by omega) (by omega) (by omega) (by omega)
    cases ho : addOk size ps.length with
    | false =>
      have hE : addE size ps.length = 3 := by unfold addE; rw [ht, ho]; rfl
      have hL : addL bs size ps = [] := by unfold addL; rw [ht, ho]; rfl
      rw [hE, hL]
      clear hE hL k3 ht
      by_cases hc : (65536 : Int) < ps.length
      · clear ho hfi
        go_enter Try.func54, Try.ntmps54
        go_wp2_with fail
        refine hr.mono ?_
        rintro e w' ⟨rfl, rfl⟩
        go_wp2_with fail
        go_ret2
        exact ⟨_, rfl, Fresh.nil _ w, Upd.refl _ w⟩
      · have hf : fitsB ps.length size = false := by
          simp only [addOk, Bool.and_eq_false_iff, decide_eq_false_iff_not] at ho
          rcases ho with ho | ho
          · omega
          · exact ho
        rw [hf] at hfi
        clear ho hf
        go_enter Try.func54, Try.ntmps54
        go_wp2_with fail
        refine hr.mono ?_
        rintro e w' ⟨rfl, rfl⟩
        go_wp2_with fail
        refine hfi.mono ?_
        rintro e w' ⟨rfl, rfl⟩
        go_wp2_with fail
        go_ret2
        exact ⟨_, rfl, Fresh.nil _ w, Upd.refl _ w⟩
    | true =>
      have hE : addE size ps.length = 0 := by unfold addE; rw [ht, ho]; rfl
      have hL : addL bs size ps = bs ++ numB ps.length size.toNat ++ ps := by unfold addL; rw [ht, ho]; rfl
      rw [hE, hL]
      have hf : ps.length ≤ 65536 ∧ fitsB ps.length size = true := by simpa [addOk] using ho
      rw [hf.2] at hfi
      have hc : ¬ (65536 : Int) < ps.length := by omega
      obtain ⟨m, q, rfl, hq, hm1⟩ : ∃ m q : Nat, size = (m : Int) ∧ q + m = 8 ∧ 1 ≤ m := by
        rcases hs with rfl | rfl | rfl
        · exact ⟨1, 7, rfl, rfl, by decide⟩
        · exact ⟨2, 6, rfl, rfl, by decide⟩
        · exact ⟨4, 4, rfl, rfl, by decide⟩
      obtain ⟨A0, cap0, rfl, _, _, _⟩ := id h
      have g1 : (8 : Int) - (m : Int) = (q : Int) := by omega
      have HF := Lib.hid hfi
      have HR := Lib.hid hr
      have HB := Lib.hid h
      have HU := Lib.hid hu
      have HQ := Lib.hid hq
      have hm8 : (m : Int) ≤ 8 := by omega
      have hq8 : (q : Int) ≤ 8 := by omega
      have hf1 := hf.1
      have q3 : ¬ q = 8 := by omega
      have q4 : ¬ 8 = q := by omega
      clear hE hL ho hf hs ht k3 hfi hr h hu hq
      go_enter Try.func54, Try.ntmps54
      go_wp2_with fail
      refine HR.out.mono ?_
      rintro e w' ⟨rfl, rfl⟩
      go_wp2_with fail
      refine HF.out.mono ?_
      rintro e w' ⟨rfl, rfl⟩
      go_wp2_with fail
      refine (number_any ps.length _ (by omega) (by omega)).mono ?_
      rintro e w2 ⟨rfl, hs2⟩
      simp only [numArr]
      go_wp2_with fail
      have hwa := ((Upd.refl _ w2).alloc (S := fun _ => False) (.cells (numArr ps.length) 102))
      refine (concat_bs _ [(.slice A0 bs.length cap0, bs), (.slice (some ⟨w2.heap.size, q, none⟩) (8 - q) (8 - q), numB ps.length m), (.slice A ps.length cap, ps)] _ ⟨?_, fun p hp => ?_⟩ ?_).mono ?_
      · exact Rdr.lit _ _ _ _ 3 (by simp) rfl (by decide)
      · simp only [List.mem_cons, List.not_mem_nil, or_false] at hp
        rcases hp with rfl | rfl | rfl
        · exact ((HB.out.same hs2).same hwa).same ((Upd.refl _ _).alloc _)
        · exact (Bs.num8 w2 ps.length 102 _ q m rfl HQ.out hm1 (by omega) (by omega)).same ((Upd.refl _ _).alloc _)
        · exact ((HU.out.same hs2).same hwa).same ((Upd.refl _ _).alloc _)
      · simp [lenL, numB_length]
        omega
      · rintro e w3 ⟨v3, rfl, hf3, hs3⟩
        have hs4 := Same.trans (Same.trans (Same.trans hs2 hwa) ((Upd.refl _ _).alloc _)) hs3
        have hf4 := hf3.mono (base' := w.heap.size) (by have := hs2.size; simp; omega)
        have HF4 := Lib.hid hf4
        clear hf3 hf4 hwa hs3
        go_wp2_with fail
        go_ret2
        refine ⟨_, rfl, ?_, hs4⟩
        have := HF4.out
        rw [Int.toNat_natCast]
        simpa [joinL] using this
end
section
open Go.RowKit
set_option linter.unusedVariables false
set_option linter.unusedSimpArgs false

theorem putL_zeros (m : Nat) (n : Int) (h1 : 1 ≤ m) (h2 : m ≤ 8) (h3 : fitsB n m = true) : putL (List.replicate m 0) 0 m n = numB n m := by
  have ht : thereB (List.replicate m (0 : UInt8)).length 0 m = true := by simp [thereB]; omega
  unfold putL
  rw [ht, h3]
  simp
def zerosN (m : Nat) : Array Value := madeCells #[.int .u8 0] m
theorem radd_bs (v u : Value) (bs ps : List UInt8) (size : Int) (w : World) (h : Bs w v bs) (hu : Bs w u ps) (hl : bs.length ≤ 140737488351232) (hl2 : ps.length ≤ 140737488351232) :
    Calls Try.prog 78 #[v, .int .i64 size, u] w fun e w' => ∃ v', e = .returned (.tuple #[v', .int .i64 (addE size ps.length)]) ∧ Fresh w.heap.size w' v' (addL bs size ps) ∧ Same w w' := by
  obtain ⟨A, cap, rfl, k1, k2, k3⟩ := id hu
  cases ht : rightB size with
  | false =>
    have hE : addE size ps.length = 1 := by unfold addE; rw [ht]; rfl
    have hL : addL bs size ps = [] := by unfold addL; rw [ht]; rfl
    rw [hE, hL]
    have hn : ¬ (size = 1 ∨ size = 2 ∨ size = 4) := by simpa [rightB] using ht
    have g1 : (size != 1) = true := by simp; omega
    have g2 : (size != 2) = true := by simp; omega
    have g3 : (size != 4) = true := by simp; omega
    clear k3 ht hE hL hn
    go_enter Try.func78, Try.ntmps78
    go_wp2
    go_ret2
    exact ⟨_, rfl, Fresh.nil _ w, Upd.refl _ w⟩
  | true =>
    have hs : size = 1 ∨ size = 2 ∨ size = 4 := by simpa [rightB] using ht
    have hfi := rfits_any ps.length size w (by omega) (by omega) (by omega) (by omega)
    cases ho : addOk size ps.length with
    | false =>
      have hE : addE size ps.length = 3 := by unfold addE; rw [ht, ho]; rfl
      have hL : addL bs size ps = [] := by unfold addL; rw [ht, ho]; rfl
      rw [hE, hL]
      clear hE hL k3 ht
      by_cases hc : (65536 : Int) < ps.length
      · clear ho hfi
        rcases hs with rfl | rfl | rfl
        all_goals
          go_enter Try.func78, Try.ntmps78
          go_wp2_with fail
          go_ret2
          exact ⟨_, rfl, Fresh.nil _ w, Upd.refl _ w⟩
      · have hf : fitsB ps.length size = false := by
          simp only [addOk, Bool.and_eq_false_iff, decide_eq_false_iff_not] at ho
          rcases ho with ho | ho
          · omega
          · exact ho
        rw [hf] at hfi
        clear ho hf
        rcases hs with rfl | rfl | rfl
        all_goals
          go_enter Try.func78, Try.ntmps78
          go_wp2_with fail
          refine hfi.mono ?_
          rintro e w' ⟨rfl, rfl⟩
          go_wp2_with fail
          go_ret2
          exact ⟨_, rfl, Fresh.nil _ w, Upd.refl _ w⟩
    | true =>
      have hE : addE size ps.length = 0 := by unfold addE; rw [ht, ho]; rfl
      have hL : addL bs size ps = bs ++ numB ps.length size.toNat ++ ps := by unfold addL; rw [ht, ho]; rfl
      rw [hE, hL]
      have hf : ps.length ≤ 65536 ∧ fitsB ps.length size = true := by simpa [addOk] using ho
      rw [hf.2] at hfi
      have hc : ¬ (65536 : Int) < ps.length := by omega
      obtain ⟨m, rfl, hm⟩ : ∃ m : Nat, size = (m : Int) ∧ (m = 1 ∨ m = 2 ∨ m = 4) := by
        rcases hs with rfl | rfl | rfl
        · exact ⟨1, rfl, by simp⟩
        · exact ⟨2, rfl, by simp⟩
        · exact ⟨4, rfl, by simp⟩
      have hz := putL_zeros m ps.length (by omega) (by omega) hf.2
      have hmk : ∀ m : Nat, m ≤ 8 → ∀ w, (Instr.makeSlice 22 (.int .i64 m) (.int .i64 m)).run Try.prog w = .ok (.slice (some ⟨w.heap.size, 0, none⟩) m m) (w.alloc (.cells (zerosN m) 5)) :=
        fun m hm w => make_bytes 22 5 Try.underlying22 (by kernel_rfl) m (by omega) w
      have hmk1 := hmk 1 (by decide)
      have hmk2 := hmk 2 (by decide)
      have hmk4 := hmk 4 (by decide)
      rw [show ((1 : Nat) : Int) = 1 from rfl] at hmk1; rw [show ((2 : Nat) : Int) = 2 from rfl] at hmk2; rw [show ((4 : Nat) : Int) = 4 from rfl] at hmk4
      obtain ⟨A0, cap0, rfl, _, _, _⟩ := id h
      have hp := rput_bs (.slice (some ⟨w.heap.size, 0, none⟩) m m) (List.replicate m 0) 0 m ps.length (w.alloc (.cells (zerosN m) 5))
        (Bs.lit _ (zerosN m) _ _ _ _ _ _ rfl (fun j hj => made_at m j (by simpa using hj)) (by simp) (Nat.le_refl _) (by omega)) (by simp; omega) (by decide) (by decide) (by omega) (by omega) (by omega) (by omega)
      rw [hz] at hp
      generalize putE (List.replicate m (0 : UInt8)).length 0 m ps.length = PE at hp
      have HP := Lib.hid hp
      have HF := Lib.hid hfi
      have HB := Lib.hid h
      have HU := Lib.hid hu
      have hf1 := hf.1
      have gm : ((m : Int) != 1 && (m : Int) != 2 && (m : Int) != 4) = false := by rcases hm with rfl | rfl | rfl <;> rfl
      clear hE hL ho hf hs ht k3 hfi h hu hz hp gm hmk
      rcases hm with rfl | rfl | rfl
      all_goals
        go_enter Try.func78, Try.ntmps78
        go_wp2_with fail
        refine HF.out.mono ?_
        rintro e w' ⟨rfl, rfl⟩
        go_wp2_with fail
        refine HP.out.mono ?_
        rintro e w1 ⟨v1, rfl, hf1, hs1⟩
        have hs01 : Same w w1 := Same.trans ((Upd.refl _ w).alloc _) hs1
        have HF1 := Lib.hid hf1
        have hl1 := hs01.size
        clear hf1
        go_wp2_with
          (first
          | (at_builtin; refine wpl_append_bytes rfl (.tmp 42) (.tmp 43) 22 rfl Try.underlying22 li5 w.heap.size (.slice none 0 0) (.slice A0 bs.length cap0) [] bs bs rfl rfl rfl (Fresh.nil _ _) (HB.out.same hs01) hl1 (by simp; omega) ?_; intro v2 w2 hf2 hu2 hr2; have hs12 : Same w1 w2 := hu2.mono fun i _ hi => by simp [room] at hi)
          | (at_builtin; refine wpl_append_bytes rfl (.tmp 45) (.tmp 46) 22 rfl Try.underlying22 li5 w.heap.size v2 v1 bs (numB ps.length _) _ rfl rfl rfl hf2 (HF1.out.bs.same hs12) (by have := hs12.size; omega) (by rw [numB_length]; omega) ?_; intro v3 w3 hf3 hu3 hr3; have hs03 := Same.row (Same.trans hs01 hs12) hf2 hu3)
          | (at_builtin; refine wpl_append_bytes rfl (.tmp 48) (.tmp 49) 22 rfl Try.underlying22 li5 w.heap.size v3 (.slice A ps.length cap) _ ps _ rfl rfl rfl hf3 (HU.out.same hs03) hs03.size (by rw [List.length_append, numB_length]; omega) ?_; intro v4 w4 hf4 hu4 hr4))
        go_ret2
        exact ⟨_, rfl, hf4, Same.row hs03 hf3 hu4⟩
end
section
open Go.RowKit
set_option linter.unusedVariables false
set_option linter.unusedSimpArgs false

/-- The length that stands ahead. -/
def cutV (bs : List UInt8) (size : Int) : Int := valB (bs.take size.toNat)
def cutE (bs : List UInt8) (size : Int) : Int :=
  if rightB size then (if (bs.length : Int) < size then 10 else if 65536 < cutV bs size then 3 else if (bs.length : Int) - size < cutV bs size then 10 else 0) else 1
def cutN (bs : List UInt8) (size : Int) : Int := if cutE bs size = 0 then size + cutV bs size else 0
def cutP (bs : List UInt8) (size : Int) : List UInt8 := if cutE bs size = 0 then (bs.drop size.toNat).take (cutV bs size).toNat else []
def cutR (bs : List UInt8) (size : Int) : List UInt8 := if cutE bs size = 0 then bs.drop (size + cutV bs size).toNat else []
theorem cutV_nonneg (bs : List UInt8) (size : Int) : 0 ≤ cutV bs size := (valB_range _).1
theorem cutV_most (bs : List UInt8) (size : Int) (h : size ≤ 4) : cutV bs size ≤ 4294967295 := by
  have h2 := (valB_range (bs.take size.toNat)).2
  have h3 : (bs.take size.toNat).length ≤ 4 := by simp; omega
  have h4 : (256 : Int) ^ (bs.take size.toNat).length ≤ 4294967296 := by
    have : 256 ^ (bs.take size.toNat).length ≤ 256 ^ 4 := Nat.pow_le_pow_right (by decide) h3
    have e : ((256 ^ (bs.take size.toNat).length : Nat) : Int) = (256 : Int) ^ (bs.take size.toNat).length := by rw [Int.natCast_pow]; rfl
    omega
  unfold cutV
  omega
/-- What a cut of some bytes is: five cases. -/
theorem cut_cases (bs : List UInt8) (size : Int) :
    (rightB size = false ∧ cutE bs size = 1) ∨
    (rightB size = true ∧ (bs.length : Int) < size ∧ cutE bs size = 10) ∨
    (rightB size = true ∧ size ≤ bs.length ∧ 65536 < cutV bs size ∧ cutE bs size = 3) ∨
    (rightB size = true ∧ size ≤ bs.length ∧ cutV bs size ≤ 65536 ∧ bs.length - size < cutV bs size ∧ cutE bs size = 10) ∨
    (rightB size = true ∧ size ≤ bs.length ∧ cutV bs size ≤ 65536 ∧ size + cutV bs size ≤ bs.length ∧ cutE bs size = 0) := by
  unfold cutE
  cases rightB size with
  | false => exact .inl ⟨rfl, rfl⟩
  | true =>
    simp only [if_true]
    by_cases h1 : (bs.length : Int) < size
    · rw [if_pos h1]; exact .inr (.inl ⟨trivial, h1, rfl⟩)
    · rw [if_neg h1]
      by_cases h2 : 65536 < cutV bs size
      · rw [if_pos h2]; exact .inr (.inr (.inl ⟨trivial, by omega, h2, rfl⟩))
      · rw [if_neg h2]
        by_cases h3 : (bs.length : Int) - size < cutV bs size
        · rw [if_pos h3]; exact .inr (.inr (.inr (.inl ⟨trivial, by omega, by omega, h3, rfl⟩)))
        · rw [if_neg h3]; exact .inr (.inr (.inr (.inr ⟨trivial, by omega, by omega, by omega, rfl⟩)))
theorem cut_get (bs : List UInt8) (size : Int) (h : rightB size = true) : getE bs.length 0 size = (if size ≤ bs.length then 0 else 1) ∧ (size ≤ bs.length → getN bs 0 size = cutV bs size) := by
  have hs : size = 1 ∨ size = 2 ∨ size = 4 := by simpa [rightB] using h
  have ht : thereB bs.length 0 size = decide (size ≤ bs.length) := by
    unfold thereB
    apply decide_eq_decide.2
    omega
  constructor
  · unfold getE
    rw [ht]
    simp
  · intro h2
    unfold getN
    rw [ht]
    simp [h2, cutV]
/-- field.cut. -/
theorem cut_bs (v : Value) (bs : List UInt8) (size : Int) (w : World) (h : Bs w v bs) (hl : bs.length ≤ 140737488351232) (h3 : -9223372036854775808 ≤ size) (h4 : size ≤ 9223372036854775807) :
    Calls Try.prog 77 #[v, .int .i64 size] w fun e w' => ∃ v', e = .returned (.tuple #[v', .int .i64 (cutN bs size), .int .i64 (cutE bs size)]) ∧ Fresh w.heap.size w' v' (cutP bs size) ∧ Same w w' := by
  have hr := right_any size w
  have hg := get_bs v bs 0 size w h (by decide) (by decide) h3 h4
  have hcg := cut_get bs size
  obtain ⟨A, cap, rfl, k1, k2, k3⟩ := id h
  unfold cutN cutP
  rcases cut_cases bs size with ⟨c1, c2⟩ | ⟨c1, c3, c2⟩ | ⟨c1, c3, c4, c2⟩ | ⟨c1, c3, c4, c5, c2⟩ | ⟨c1, c3, c4, c5, c2⟩
  · rw [c2, if_neg (by decide), if_neg (by decide)]
    rw [c1] at hr
    clear hcg hg c1 c2 k3
    go_enter Try.func77, Try.ntmps77
    go_wp2_with fail
    refine hr.mono ?_
    rintro e w' ⟨rfl, rfl⟩
    go_wp2
    go_ret3
    exact ⟨_, rfl, Fresh.nil _ w, Upd.refl _ w⟩
  · rw [c2, if_neg (by decide), if_neg (by decide)]
    rw [c1] at hr
    have e1 := (hcg c1).1
    rw [if_neg (by omega)] at e1
    rw [e1] at hg
    generalize getN bs 0 size = GN at hg
    have HG := Lib.hid hg
    clear hcg hg c1 c2 k3 e1
    go_enter Try.func77, Try.ntmps77
    go_wp2_with fail
    refine hr.mono ?_
    rintro e w' ⟨rfl, rfl⟩
    go_wp2_with fail
    refine HG.out.mono ?_
    rintro e w' ⟨rfl, rfl⟩
    go_wp2_with fail
    go_ret3
    exact ⟨_, rfl, Fresh.nil _ w, Upd.refl _ w⟩
  · rw [c2, if_neg (by decide), if_neg (by decide)]
    rw [c1] at hr
    have e1 := (hcg c1).1
    have e2 := (hcg c1).2 c3
    rw [if_pos c3] at e1
    rw [e1, e2] at hg
    generalize cutV bs size = V at hg c4
    have HG := Lib.hid hg
    clear hcg hg c1 c2 k3 e1 e2
    go_enter Try.func77, Try.ntmps77
    go_wp2_with fail
    refine hr.mono ?_
    rintro e w' ⟨rfl, rfl⟩
    go_wp2_with fail
    refine HG.out.mono ?_
    rintro e w' ⟨rfl, rfl⟩
    go_wp2_with fail
    go_ret3
    exact ⟨_, rfl, Fresh.nil _ w, Upd.refl _ w⟩
  · rw [c2, if_neg (by decide), if_neg (by decide)]
    rw [c1] at hr
    have e1 := (hcg c1).1
    have e2 := (hcg c1).2 c3
    rw [if_pos c3] at e1
    rw [e1, e2] at hg
    have hv0 := cutV_nonneg bs size
    have hs : size = 1 ∨ size = 2 ∨ size = 4 := by simpa [rightB] using c1
    have hs2 : 1 ≤ size ∧ size ≤ 4 := by omega
    generalize cutV bs size = V at hg c4 c5 hv0
    have c6 : ¬ 65536 < V := by omega
    have HG := Lib.hid hg
    clear hcg hg c1 c2 k3 e1 e2 hs
    go_enter Try.func77, Try.ntmps77
    go_wp2_with fail
    refine hr.mono ?_
    rintro e w' ⟨rfl, rfl⟩
    go_wp2_with fail
    refine HG.out.mono ?_
    rintro e w' ⟨rfl, rfl⟩
    go_wp2_with fail
    go_ret3
    exact ⟨_, rfl, Fresh.nil _ w, Upd.refl _ w⟩
  · rw [c2, if_pos rfl, if_pos rfl]
    rw [c1] at hr
    have e1 := (hcg c1).1
    have e2 := (hcg c1).2 c3
    rw [if_pos c3] at e1
    rw [e1, e2] at hg
    have hv0 := cutV_nonneg bs size
    have hs : size = 1 ∨ size = 2 ∨ size = 4 := by simpa [rightB] using c1
    obtain ⟨m, rfl⟩ : ∃ m : Nat, size = (m : Int) := ⟨size.toNat, by omega⟩
    obtain ⟨V, hV⟩ : ∃ V : Nat, (V : Int) = cutV bs m := ⟨(cutV bs m).toNat, by omega⟩
    rw [← hV] at hg c4 c5 hv0 ⊢
    have c6 : ¬ (65536 : Int) < V := by omega
    have c7 : ¬ ((bs.length : Int) - (m : Int) < (V : Int)) := by omega
    have hcl := fun w' (hs : Same w w') => clone_bs _ _ w' (((h.drop m (by omega)).take V (by omega)).same hs) (by simp; omega)
    have hm1 : 1 ≤ m ∧ m ≤ 4 := by omega
    have hmn : m + V ≤ bs.length := by omega
    have HG := Lib.hid hg
    have HC := Lib.hid hcl
    obtain ⟨b, off, rfl, _⟩ : ∃ b off, A = some ⟨b, off, none⟩ ∧ True := by
      rcases k3 with k3 | ⟨b, off, k3, _⟩
      · rw [k3] at hmn; simp at hmn; omega
      · exact ⟨b, off, k3, trivial⟩
    clear hcg hg c1 c2 k3 e1 e2 hs hcl hV
    by_cases hcm : cap = m
    · subst hcm
      go_enter Try.func77, Try.ntmps77
      go_wp2_with fail
      refine hr.mono ?_
      rintro e w' ⟨rfl, rfl⟩
      go_wp2_with fail
      refine HG.out.mono ?_
      rintro e w' ⟨rfl, rfl⟩
      go_wp2_with fail
      have hc := HC.out w (Upd.refl _ w)
      simp only [if_true, Nat.sub_self] at hc
      refine hc.mono ?_
      rintro e w1 ⟨v1, rfl, hf1, hs1⟩
      have HF := Lib.hid hf1
      clear hf1
      go_wp2_with fail
      go_ret3
      exact ⟨_, rfl, by have := HF.out; simpa using this, hs1⟩
    · go_enter Try.func77, Try.ntmps77
      go_wp2_with fail
      refine hr.mono ?_
      rintro e w' ⟨rfl, rfl⟩
      go_wp2_with fail
      refine HG.out.mono ?_
      rintro e w' ⟨rfl, rfl⟩
      go_wp2_with fail
      have hc := HC.out w (Upd.refl _ w)
      rw [if_neg hcm] at hc
      simp only [Option.map_some, Addr.add_lit] at hc
      refine hc.mono ?_
      rintro e w1 ⟨v1, rfl, hf1, hs1⟩
      have HF := Lib.hid hf1
      clear hf1
      go_wp2_with fail
      go_ret3
      exact ⟨_, rfl, by have := HF.out; simpa using this, hs1⟩
end
section
open Go.RowKit
set_option linter.unusedVariables false
set_option linter.unusedSimpArgs false

theorem Bs.as {w : World} {v v' : Value} {bs : List UInt8} (h : Bs w v bs) (e : v = v') : Bs w v' bs := e ▸ h
set_option maxHeartbeats 1000000 in
theorem rCut_bs (v : Value) (bs : List UInt8) (size : Int) (w : World) (h : Bs w v bs) (hl : bs.length ≤ 140737488351232) (h3 : -9223372036854775808 ≤ size) (h4 : size ≤ 9223372036854775807) :
    Calls Try.prog 72 #[v, .int .i64 size] w fun e w' => ∃ v1 v2, e = .returned (.tuple #[v1, v2, .int .i64 (cutE bs size)]) ∧ Fresh w.heap.size w' v1 (cutP bs size) ∧ Fresh w.heap.size w' v2 (cutR bs size) ∧ Same w w' := by
  have hg := rget_bs v bs 0 size w h (by decide) (by decide) h3 h4
  have hcg := cut_get bs size
  obtain ⟨A, cap, rfl, k1, k2, k3⟩ := id h
  unfold cutP cutR
  rcases cut_cases bs size with ⟨c1, c2⟩ | ⟨c1, c3, c2⟩ | ⟨c1, c3, c4, c2⟩ | ⟨c1, c3, c4, c5, c2⟩ | ⟨c1, c3, c4, c5, c2⟩
  · rw [c2, if_neg (by decide), if_neg (by decide)]
    have hn : ¬ (size = 1 ∨ size = 2 ∨ size = 4) := by simpa [rightB] using c1
    have g1 : (size != 1) = true := by simp; omega
    have g2 : (size != 2) = true := by simp; omega
    have g3 : (size != 4) = true := by simp; omega
    clear hcg hg c1 c2 k3 hn
    go_enter Try.func72, Try.ntmps72
    go_wp2_with fail
    go_ret3
    exact ⟨_, _, rfl, Fresh.nil _ w, Fresh.nil _ w, Upd.refl _ w⟩
  · rw [c2, if_neg (by decide), if_neg (by decide)]
    have hs : size = 1 ∨ size = 2 ∨ size = 4 := by simpa [rightB] using c1
    clear hcg hg c1 c2 k3
    rcases hs with rfl | rfl | rfl
    all_goals
      go_enter Try.func72, Try.ntmps72
      go_wp2_with fail
      go_ret3
      exact ⟨_, _, rfl, Fresh.nil _ w, Fresh.nil _ w, Upd.refl _ w⟩
  · rw [c2, if_neg (by decide), if_neg (by decide)]
    have hs : size = 1 ∨ size = 2 ∨ size = 4 := by simpa [rightB] using c1
    have e2 := (hcg c1).2 c3
    rw [e2] at hg
    generalize cutV bs size = V at hg c4
    generalize getE bs.length 0 size = GE at hg
    have hc9 : ¬ ((bs.length : Int) < size) := by omega
    have HG := Lib.hid hg
    clear hcg hg c1 c2 k3 e2
    rcases hs with rfl | rfl | rfl
    all_goals
      go_enter Try.func72, Try.ntmps72
      go_wp2_with fail
      refine HG.out.mono ?_
      rintro e w' ⟨rfl, rfl⟩
      go_wp2_with fail
      go_ret3
      exact ⟨_, _, rfl, Fresh.nil _ w, Fresh.nil _ w, Upd.refl _ w⟩
  · rw [c2, if_neg (by decide), if_neg (by decide)]
    have hs : size = 1 ∨ size = 2 ∨ size = 4 := by simpa [rightB] using c1
    have e2 := (hcg c1).2 c3
    have hv0 := cutV_nonneg bs size
    rw [e2] at hg
    generalize cutV bs size = V at hg c4 c5 hv0
    generalize getE bs.length 0 size = GE at hg
    have hc9 : ¬ ((bs.length : Int) < size) := by omega
    have hc8 : ¬ (65536 < V) := by omega
    have HG := Lib.hid hg
    clear hcg hg c1 c2 k3 e2
    rcases hs with rfl | rfl | rfl
    all_goals
      go_enter Try.func72, Try.ntmps72
      go_wp2_with fail
      refine HG.out.mono ?_
      rintro e w' ⟨rfl, rfl⟩
      go_wp2_with fail
      go_ret3
      exact ⟨_, _, rfl, Fresh.nil _ w, Fresh.nil _ w, Upd.refl _ w⟩
  · rw [c2, if_pos rfl, if_pos rfl]
    have hs : size = 1 ∨ size = 2 ∨ size = 4 := by simpa [rightB] using c1
    have e2 := (hcg c1).2 c3
    have hv0 := cutV_nonneg bs size
    rw [e2] at hg
    obtain ⟨m, rfl, hm⟩ : ∃ m : Nat, size = (m : Int) ∧ (m = 1 ∨ m = 2 ∨ m = 4) := by
      rcases hs with rfl | rfl | rfl
      · exact ⟨1, rfl, by simp⟩
      · exact ⟨2, rfl, by simp⟩
      · exact ⟨4, rfl, by simp⟩
    obtain ⟨V, hV⟩ : ∃ V : Nat, (V : Int) = cutV bs m := ⟨(cutV bs m).toNat, by omega⟩
    rw [← hV] at hg c4 c5 hv0 ⊢
    have c6 : ¬ (65536 : Int) < V := by omega
    have c7 : ¬ ((bs.length : Int) - (m : Int) < (V : Int)) := by omega
    have hs1 := (h.drop m (by omega)).take V (by omega)
    have hs2 := h.drop (m + V) (by omega)
    have e5 : (bs.drop m).take V = (bs.drop (m : Int).toNat).take (V : Int).toNat := by simp
    have e6 : bs.drop (m + V) = bs.drop ((m : Int) + (V : Int)).toNat := by rw [show ((m : Int) + (V : Int)).toNat = m + V by omega]
    rw [e5] at hs1
    rw [e6] at hs2
    have hmn : m + V ≤ bs.length := by omega
    obtain ⟨b, off, rfl, _⟩ : ∃ b off, A = some ⟨b, off, none⟩ ∧ True := by
      rcases k3 with k3 | ⟨b, off, k3, _⟩
      · rw [k3] at hmn; simp at hmn; omega
      · exact ⟨b, off, k3, trivial⟩
    have hX1 : ((bs.drop (m : Int).toNat).take (V : Int).toNat).length ≤ 140737488351232 := by simp; omega
    have hX2 : (bs.drop ((m : Int) + (V : Int)).toNat).length ≤ 140737488351232 := by simp; omega
    generalize (bs.drop (m : Int).toNat).take (V : Int).toNat = X1 at hs1 hX1 ⊢
    generalize bs.drop ((m : Int) + (V : Int)).toNat = X2 at hs2 hX2 ⊢
    generalize getE bs.length 0 m = GE at hg
    have hm0 : ¬ ((bs.length : Int) < (m : Int)) := by omega
    have HG := Lib.hid hg
    have H1 := Lib.hid hs1
    have H2 := Lib.hid hs2
    clear hcg hg c1 c2 k3 e2 hs hs1 hs2 e5 e6 hV h
    have hcc : (cap = m ∧ cap = m + V) ∨ (cap ≠ m ∧ cap = m + V) ∨ (cap ≠ m ∧ cap ≠ m + V) := by omega
    have hs1 := H1.out
    have hs2 := H2.out
    rcases hcc with ⟨hcm, hcv⟩ | ⟨hcm, hcv⟩ | ⟨hcm, hcv⟩
    · rw [if_pos hcm] at hs1
      rw [if_pos hcv] at hs2
      have hV0 : V = 0 := by omega
      subst hV0
      clear H1 H2 hcv
      subst hcm
      rcases hm with rfl | rfl | rfl
      all_goals
        go_enter Try.func72, Try.ntmps72
        go_wp2_with fail
        refine HG.out.mono ?_
        rintro e w' ⟨rfl, rfl⟩
        go_wp2_with
          (first
          | (at_builtin; refine wpl_append_bytes rfl (.tmp 40) (.tmp 47) 22 rfl Try.underlying22 li5 w.heap.size (.slice none 0 0) _ [] X1 X1 rfl rfl rfl (Fresh.nil _ _) (hs1.as (by simp [Act.eval]; try omega)) (Nat.le_refl _) (by simp; omega) ?_; intro v2 w2 hf2 hu2 hr2; have hs12 : Same w w2 := hu2.mono fun i _ hi => by simp [room] at hi)
          | (at_builtin; refine wpl_append_bytes rfl (.tmp 49) (.tmp 55) 22 rfl Try.underlying22 li5 w.heap.size (.slice none 0 0) _ [] X2 X2 rfl rfl rfl (Fresh.nil _ _) ((hs2.same hs12).as (by simp [Act.eval]; try omega)) hs12.size (by simp; omega) ?_; intro v3 w3 hf3 hu3 hr3))
        have hs23 : Same w2 w3 := hu3.mono fun i _ hi => by simp [room] at hi
        go_ret3
        exact ⟨_, _, rfl, hf2.same hs23, hf3, Same.trans hs12 hs23⟩
    · rw [if_neg hcm] at hs1
      rw [if_pos hcv] at hs2
      simp only [Option.map_some, Addr.add_lit] at hs1
      clear H1 H2
      subst hcv
      rcases hm with rfl | rfl | rfl
      all_goals
        go_enter Try.func72, Try.ntmps72
        go_wp2_with fail
        refine HG.out.mono ?_
        rintro e w' ⟨rfl, rfl⟩
        go_wp2_with
          (first
          | (at_builtin; refine wpl_append_bytes rfl (.tmp 40) (.tmp 47) 22 rfl Try.underlying22 li5 w.heap.size (.slice none 0 0) _ [] X1 X1 rfl rfl rfl (Fresh.nil _ _) (hs1.as (by simp [Act.eval]; try omega)) (Nat.le_refl _) (by simp; omega) ?_; intro v2 w2 hf2 hu2 hr2; have hs12 : Same w w2 := hu2.mono fun i _ hi => by simp [room] at hi)
          | (at_builtin; refine wpl_append_bytes rfl (.tmp 49) (.tmp 55) 22 rfl Try.underlying22 li5 w.heap.size (.slice none 0 0) _ [] X2 X2 rfl rfl rfl (Fresh.nil _ _) ((hs2.same hs12).as (by simp [Act.eval]; try omega)) hs12.size (by simp; omega) ?_; intro v3 w3 hf3 hu3 hr3))
        have hs23 : Same w2 w3 := hu3.mono fun i _ hi => by simp [room] at hi
        go_ret3
        exact ⟨_, _, rfl, hf2.same hs23, hf3, Same.trans hs12 hs23⟩
    · rw [if_neg hcm] at hs1
      rw [if_neg hcv] at hs2
      simp only [Option.map_some, Addr.add_lit] at hs1 hs2
      clear H1 H2
      rcases hm with rfl | rfl | rfl
      all_goals
        go_enter Try.func72, Try.ntmps72
        go_wp2_with fail
        refine HG.out.mono ?_
        rintro e w' ⟨rfl, rfl⟩
        go_wp2_with
          (first
          | (at_builtin; refine wpl_append_bytes rfl (.tmp 40) (.tmp 47) 22 rfl Try.underlying22 li5 w.heap.size (.slice none 0 0) _ [] X1 X1 rfl rfl rfl (Fresh.nil _ _) (hs1.as (by simp [Act.eval]; try omega)) (Nat.le_refl _) (by simp; omega) ?_; intro v2 w2 hf2 hu2 hr2; have hs12 : Same w w2 := hu2.mono fun i _ hi => by simp [room] at hi)
          | (at_builtin; refine wpl_append_bytes rfl (.tmp 49) (.tmp 55) 22 rfl Try.underlying22 li5 w.heap.size (.slice none 0 0) _ [] X2 X2 rfl rfl rfl (Fresh.nil _ _) ((hs2.same hs12).as (by simp [Act.eval]; try omega)) hs12.size (by simp; omega) ?_; intro v3 w3 hf3 hu3 hr3))
        have hs23 : Same w2 w3 := hu3.mono fun i _ hi => by simp [room] at hi
        go_ret3
        exact ⟨_, _, rfl, hf2.same hs23, hf3, Same.trans hs12 hs23⟩
end
section
open Go.RowKit
set_option linter.unusedVariables false
set_option linter.unusedSimpArgs false

/-- Any number: the two writers. -/
theorem wr_parts (e size n : Int) : e ≠ 0 ∨ (e = 0 ∧ (size < 1 ∨ 8 < size)) ∨ (e = 0 ∧ 1 ≤ size ∧ size < 8 ∧ (n < -(2 ^ (8 * size - 1).toNat) ∨ 2 ^ (8 * size).toNat ≤ n)) ∨
    (e = 0 ∧ 1 ≤ size ∧ size ≤ 8 ∧ (size = 8 ∨ (-(2 ^ (8 * size - 1).toNat) ≤ n ∧ n < 2 ^ (8 * size).toNat))) := by
  by_cases he : e = 0
  · right
    by_cases h1 : size < 1 ∨ 8 < size
    · exact .inl ⟨he, h1⟩
    · right
      by_cases h2 : size < 8 ∧ (n < -(2 ^ (8 * size - 1).toNat) ∨ 2 ^ (8 * size).toNat ≤ n)
      · exact .inl ⟨he, by omega, h2.1, h2.2⟩
      · exact .inr ⟨he, by omega, by omega, by omega⟩
  · exact .inl he
end
section
open Go.RowKit
set_option linter.unusedVariables false
set_option linter.unusedSimpArgs false

section
variable {P : Program} {ops : Array Oper} {Q : Exit → Act → World → Prop} {md : Region.Mode} {S : World → Prop} {need : Nat → Bool}

/-- j waits for i, perhaps through others. -/
def waitsT (md : Region.Mode) (ops : Array Oper) : Nat → Nat → Nat → Bool
  | 0, _, _ => false
  | n + 1, j, i => match ops[j]? with
    | none => false
    | some o => o.after.any fun e => Region.binds md e && (e.on == i || waitsT md ops n e.on i)
/-- What has come up, and all that it waits for. -/
def Closed (md : Region.Mode) (ops : Array Oper) (listed : Array Bool) : Prop := ∀ j o, listed.getD j false = true → ops[j]? = some o → ∀ e ∈ o.after, Region.binds md e = true → listed.getD e.on false = true
theorem closed_none (m : Nat) : Closed md ops (Array.replicate m false) := fun j o h => by
  rw [Array.getD_eq_getD_getElem?, Array.getElem?_replicate] at h
  split at h <;> simp at h
theorem closed_set {listed : Array Bool} {i : Nat} (h : Closed md ops listed) (hr : i ∈ Region.ready md ops listed) : Closed md ops (listed.setIfInBounds i true) := by
  intro j o hj ho e he hb
  obtain ⟨hu, oi, hoi, hall⟩ := mem_ready.1 hr
  have hmono : ∀ k, listed.getD k false = true → (listed.setIfInBounds i true).getD k false = true := by
    intro k hk
    by_cases hki : i = k
    · subst hki
      have hlt : i < listed.size := by
        rcases Nat.lt_or_ge i listed.size with h | h
        · exact h
        · rw [Array.getD_eq_getD_getElem?, Array.getElem?_eq_none h] at hk
          simp at hk
      simp [Array.getD_eq_getD_getElem?, hlt]
    · rw [getD_set_ne false hki]
      exact hk
  by_cases hji : i = j
  · subst hji
    rw [hoi] at ho
    injection ho with ho
    subst ho
    exact hmono _ (hall e he hb)
  · rw [getD_set_ne false hji] at hj
    exact hmono _ (h j o hj ho e he hb)
theorem closed_waits {listed : Array Bool} (h : Closed md ops listed) {i : Nat} : ∀ (n j : Nat), (∀ o, ops[j]? = some o → ∀ e ∈ o.after, Region.binds md e = true → listed.getD e.on false = true) → waitsT md ops n j i = true → listed.getD i false = true := by
  intro n
  induction n with
  | zero => intro j _ hw; simp [waitsT] at hw
  | succ n ih =>
    intro j hj hw
    unfold waitsT at hw
    split at hw
    · simp at hw
    · rename_i o ho
      obtain ⟨e, he, hb⟩ := Array.any_eq_true'.1 hw
      simp only [Bool.and_eq_true, Bool.or_eq_true, beq_iff_eq] at hb
      have hl := hj o ho e he hb.1
      rcases hb.2 with hb | hb
      · rw [← hb]; exact hl
      · exact ih e.on (fun o' ho' => h e.on o' hl ho') hb
/-- Whatever order is picked from here on, and S holds behind each operation that 'need' names. -/
def wpAnyN (P : Program) (md : Region.Mode) (ops : Array Oper) (Q : Exit → Act → World → Prop) (S : World → Prop) (need : Nat → Bool) : Nat → Array Bool → Act → World → Prop
  | 0, listed, a, w => Region.ready md ops listed = [] ∧ Q .normal a w
  | fuel + 1, listed, a, w =>
    (Region.ready md ops listed = [] → Q .normal a w) ∧
    ∀ i ∈ Region.ready md ops listed, wpOp P ops Q i (fun a' w' => (need i = true → S w') ∧ wpAnyN P md ops Q S need fuel (listed.setIfInBounds i true) a' w') a w
theorem wpAny_of_need : ∀ (fuel : Nat) (listed : Array Bool) (a : Act) (w : World), wpAnyN P md ops Q S need fuel listed a w → wpAny P md ops Q fuel listed a w
  | 0, _, _, _, h => h
  | fuel + 1, _, _, _, h => ⟨h.1, fun i hi => wpOp_mono (fun a' w' h' => wpAny_of_need fuel _ a' w' h'.2) (h.2 i hi)⟩
theorem unlisted {listed : Array Bool} {i : Nat} (hr : i ∈ Region.ready md ops listed) : ¬ listed.getD i false = true := by
  intro h1
  have h0 := (mem_ready.1 hr).1
  rcases Nat.lt_or_ge i listed.size with h' | h'
  · simp [h'] at h0 h1
    rw [h0] at h1
    cases h1
  · simp [Array.getElem?_eq_none h'] at h1
/-- An operation that only reads may be taken first, if what could come ahead of it keeps what it reads. -/
theorem wpAnyN_first {i : Nat} {oi : Oper} {v : Value} (hi : ops[i]? = some oi) (hsel : ∀ (j : Nat) (o : Oper) cs b, ops[j]? = some o → o.op ≠ .select cs b)
    (hQ : ∀ c a w, Q (.panic c) (a.put oi.dst v) w → Q (.panic c) a w) (hneed : ∀ j, j ≠ i → j < ops.size → need j = false → waitsT md ops ops.size j i = true) :
    ∀ (fuel : Nat) (listed : Array Bool) (a : Act) (w : World), Closed md ops listed →
      (∀ j oj, ops[j]? = some oj → j ≠ i → listed.getD j true = false → (∀ e ∈ oj.after, Region.binds md e = true → e.on ≠ i) → oi.apart ops oj = true) →
      i ∈ Region.ready md ops listed → YieldsIf P ops S oi v a → S w →
      wpAnyN P md ops Q S need fuel (listed.setIfInBounds i true) (a.put oi.dst v) w → wpAnyN P md ops Q S need (fuel + 1) listed a w := by
  intro fuel
  induction fuel with
  | zero =>
    intro listed a w _ _ hr hy hS H
    refine ⟨fun h => (by rw [h] at hr; cases hr), fun j hj => ?_⟩
    by_cases hji : j = i
    · subst hji; exact hy.wpOp hi hS ⟨fun _ => hS, H⟩
    · have := ready_mono hj hji
      rw [H.1] at this
      cases this
  | succ fuel ih =>
    intro listed a w hcl hfree hr hy hS H
    refine ⟨fun h => (by rw [h] at hr; cases hr), fun j hj => ?_⟩
    by_cases hji : j = i
    · subst hji; exact hy.wpOp hi hS ⟨fun _ => hS, H⟩
    · have h1 := H.2 j (ready_mono hj hji)
      obtain ⟨hjun, oj, hoj, hall⟩ := mem_ready.1 hj
      have hni := unlisted hr
      have hnot : ∀ e ∈ oj.after, Region.binds md e = true → e.on ≠ i := fun e he hb heq => hni (by rw [← heq]; exact hall e he hb)
      have hnj : need j = true := by
        cases hn : need j with
        | true => rfl
        | false =>
          have hw := hneed j hji ((Array.getElem?_eq_some_iff.1 hoj).1) hn
          exact absurd (closed_waits hcl ops.size j (fun o ho e he hb => by rw [hoj] at ho; injection ho with ho; subst ho; exact hall e he hb) hw) hni
      have h2 := wpOp_putIf hoj (hfree j oj hoj hji hjun hnot) (fun cs b => hsel i oi cs b hi) (fun cs b => hsel j oj cs b hoj) hQ hy h1
      have hfree' : ∀ k ok, ops[k]? = some ok → k ≠ i → (listed.setIfInBounds j true).getD k true = false →
          (∀ e ∈ ok.after, Region.binds md e = true → e.on ≠ i) → oi.apart ops ok = true := fun k ok hk hki hun hno => by
        refine hfree k ok hk hki ?_ hno
        by_cases hjk : j = k
        · subst hjk; exact hjun
        · rw [getD_set_ne true hjk] at hun; exact hun
      refine wpOp_mono (fun a' w' h3 => ⟨fun _ => h3.2.1 hnj, ih (listed.setIfInBounds j true) a' w' (closed_set hcl hj) hfree' (ready_mono hr (Ne.symm hji)) h3.1 (h3.2.1 hnj) ?_⟩) h2
      rw [Array.setIfInBounds_comm _ _ hji]
      exact h3.2.2
/-- What the kernel checks of a take. -/
def needB (md : Region.Mode) (ops : Array Oper) (need : Nat → Bool) (i : Nat) : Bool := (List.range ops.size).all fun j => j == i || need j || waitsT md ops ops.size j i
theorem needB_spec {i : Nat} (h : needB md ops need i = true) : ∀ j, j ≠ i → j < ops.size → need j = false → waitsT md ops ops.size j i = true := by
  intro j hji hj hn
  have := List.all_eq_true.1 h j (List.mem_range.2 hj)
  simp only [Bool.or_eq_true, beq_iff_eq] at this
  rcases this with (h1 | h1) | h1
  · exact absurd h1 hji
  · rw [hn] at h1; cases h1
  · exact h1
theorem wpAnyN_take {i : Nat} {oi : Oper} {v : Value} {fuel : Nat} {listed : Array Bool} {a : Act} {w : World} (hi : ops[i]? = some oi)
    (hs : Region.noSelect ops = true) (hf : Region.free md ops listed i = true) (hr : (Region.ready md ops listed).contains i = true) (hn : needB md ops need i = true)
    (hQ : ∀ c a w, Q (.panic c) (a.put oi.dst v) w → Q (.panic c) a w) (hcl : Closed md ops listed) (hS : S w) (hy : YieldsIf P ops S oi v a)
    (h : Closed md ops (listed.setIfInBounds i true) → wpAnyN P md ops Q S need fuel (listed.setIfInBounds i true) (a.put oi.dst v) w) : wpAnyN P md ops Q S need (fuel + 1) listed a w :=
  wpAnyN_first hi (Region.noSelect_spec hs) hQ (needB_spec hn) fuel listed a w hcl (Region.free_spec hi hf) (by simpa using hr) hy hS (h (closed_set hcl (by simpa using hr)))
/-- One alone may come up. -/
theorem wpAnyN_one {i : Nat} {oi : Oper} {fuel : Nat} {listed : Array Bool} {a : Act} {w : World} (hr : Region.ready md ops listed = [i]) (hi : ops[i]? = some oi)
    (h : ∀ K' : Act → World → Prop, Shut (∀ a w, (need i = true → S w) → wpAnyN P md ops Q S need fuel (listed.setIfInBounds i true) a w → K' a w) → if Region.wanted oi (yielded ops a.tmps) = true then Oper.wp P oi a w K' Q else K' (a.put oi.dst undef) w) :
    wpAnyN P md ops Q S need (fuel + 1) listed a w := by
  refine ⟨fun e => (by rw [hr] at e; cases e), fun j hj => ?_⟩
  rw [hr] at hj
  obtain rfl := List.mem_singleton.1 hj
  exact wpOp_step hi fun K' hK => h K' fun a w hS hW => hK a w ⟨hS, hW⟩
/-- The same, and what has come up is told on. -/
theorem wpAnyN_oneC {i : Nat} {oi : Oper} {fuel : Nat} {listed : Array Bool} {a : Act} {w : World} (hr : Region.ready md ops listed = [i]) (hi : ops[i]? = some oi) (hcl : Closed md ops listed)
    (h : Closed md ops (listed.setIfInBounds i true) → ∀ K' : Act → World → Prop, Shut (∀ a w, (need i = true → S w) → wpAnyN P md ops Q S need fuel (listed.setIfInBounds i true) a w → K' a w) → if Region.wanted oi (yielded ops a.tmps) = true then Oper.wp P oi a w K' Q else K' (a.put oi.dst undef) w) :
    wpAnyN P md ops Q S need (fuel + 1) listed a w := wpAnyN_one hr hi (h (closed_set hcl (by rw [hr]; exact List.mem_singleton.2 rfl)))
/-- An operation whose guard says no, its slot being empty as yet. -/
theorem wpAnyN_skip {i : Nat} {oi : Oper} {fuel : Nat} {listed : Array Bool} {a : Act} {w : World} (hi : ops[i]? = some oi)
    (hs : Region.noSelect ops = true) (hf : Region.free md ops listed i = true) (hr : (Region.ready md ops listed).contains i = true) (hn : needB md ops need i = true)
    (ha : a.put oi.dst undef = a) (hQ : ∀ c a w, Q (.panic c) (a.put oi.dst undef) w → Q (.panic c) a w) (hcl : Closed md ops listed) (hS : S w) (hw : Region.wanted oi (yielded ops a.tmps) = false)
    (h : Closed md ops (listed.setIfInBounds i true) → wpAnyN P md ops Q S need fuel (listed.setIfInBounds i true) a w) : wpAnyN P md ops Q S need (fuel + 1) listed a w :=
  wpAnyN_take hi hs hf hr hn hQ hcl hS (Or.inr ⟨hw, rfl⟩) fun hc => by rw [ha]; exact h hc
theorem wpAnyN_done {listed : Array Bool} {a : Act} {w : World} (hr : Region.ready md ops listed = []) (h : Q .normal a w) : ∀ fuel, wpAnyN P md ops Q S need fuel listed a w
  | 0 => ⟨hr, h⟩
  | _ + 1 => ⟨fun _ => h, by rw [hr]; simp⟩
theorem wp_region_need {id : Nat} {a : Act} {w : World} (S : World → Prop) (need : Nat → Bool) (hm : P.follows .mixedOrders = true)
    (h : Closed .any ops (Array.replicate ops.size false) → wpAnyN P .any ops Q S need ops.size (Array.replicate ops.size false) a w.drew) : (Code.region id ops true).wp P Q a w :=
  wp_region_any hm (wpAny_of_need _ _ _ _ (h (closed_none _)))
end
end
section
open Go.RowKit
set_option linter.unusedVariables false
section
variable {P : Program} {ops : Array Oper} {Q : Exit → Act → World → Prop} {md : Region.Mode} {S : World → Prop} {need : Nat → Bool}
theorem wpAnyN_twoC {i j : Nat} {oi oj : Oper} {fuel : Nat} {listed : Array Bool} {a : Act} {w : World} (hr : Region.ready md ops listed = [i, j]) (hi : ops[i]? = some oi) (hj : ops[j]? = some oj) (hcl : Closed md ops listed)
    (h1 : Closed md ops (listed.setIfInBounds i true) → ∀ K' : Act → World → Prop, Shut (∀ a w, (need i = true → S w) → wpAnyN P md ops Q S need fuel (listed.setIfInBounds i true) a w → K' a w) → if Region.wanted oi (yielded ops a.tmps) = true then Oper.wp P oi a w K' Q else K' (a.put oi.dst undef) w)
    (h2 : Closed md ops (listed.setIfInBounds j true) → ∀ K' : Act → World → Prop, Shut (∀ a w, (need j = true → S w) → wpAnyN P md ops Q S need fuel (listed.setIfInBounds j true) a w → K' a w) → if Region.wanted oj (yielded ops a.tmps) = true then Oper.wp P oj a w K' Q else K' (a.put oj.dst undef) w) :
    wpAnyN P md ops Q S need (fuel + 1) listed a w := by
  refine ⟨fun e => (by rw [hr] at e; cases e), fun k hk => ?_⟩
  rw [hr] at hk
  have hi2 : i ∈ Region.ready md ops listed := by rw [hr]; simp
  have hj2 : j ∈ Region.ready md ops listed := by rw [hr]; simp
  by_cases hki : k = i
  · subst hki
    exact wpOp_step hi fun K' hK => h1 (closed_set hcl hi2) K' fun a w hS hW => hK a w ⟨hS, hW⟩
  · obtain rfl : k = j := by
      rcases List.mem_cons.1 hk with h | h
      · exact absurd h hki
      · exact List.mem_singleton.1 h
    exact wpOp_step hj fun K' hK => h2 (closed_set hcl hj2) K' fun a w hS hW => hK a w ⟨hS, hW⟩
end
end
section
open Go.RowKit
set_option linter.unusedVariables false
set_option linter.unusedSimpArgs false
section
variable {P : Program}
/-- append(v, u...), v of the call's own, as one step of a region that draws its order: elements of sz cells. -/
theorem step_append_own {ops : Array Oper} {o : Oper} {a : Act} {w : World} {K : Act → World → Prop} {Q : Exit → Act → World → Prop} {E : Prop}
    (hg : o.guard = none) (s x : Operand) (t : TypeId) (hop : o.op = Op.call { callee := Callee.builtin Builtin.append, args := #[s, x], argTypes := #[t, t] })
    {e : TypeId} {z : Value} {sz bytes : Nat} (ht : P.underlying t = some (.slice e)) (hinfo : (P.info? e).map (fun i => (i.zero, i.size, i.bytes)) = some (some z, sz, bytes)) (hzs : z.cells.size = sz) (hs0 : 0 < sz)
    {base : Nat} (v u : Value) {xs ys : List Value} (hvs : a.eval s = v) (hux : a.eval x = u)
    (hv : Own base w v sz xs) (hu : Rdr w u sz ys) (h1 : ∀ y ∈ ys, y.oneCell' = true) (hbase : base ≤ w.heap.size)
    (n m : Nat) (hn : xs.length = n * sz) (hm : ys.length = m * sz) (hb : ((n + m) + (n + m) / 4 + 192) * bytes ≤ 281474976710656) (hmax : n + m ≤ 9223372036854775807)
    (h : ∀ v' w', Own base w' v' sz (xs ++ ys) → Upd (fun k => room v = some k) w w' → (∀ k, room v' = some k → room v = some k ∨ w.heap.size ≤ k) → K (a.put o.dst v') w') :
    if Region.wanted o (yielded ops a.tmps) = true then Oper.wp P o a w K Q else E := by
  have hw : Region.wanted o (yielded ops a.tmps) = true := by simp [Region.wanted, hg]
  rw [if_pos hw]
  obtain ⟨i, hi, hzz⟩ := Option.map_eq_some_iff.1 hinfo
  simp only [Prod.mk.injEq] at hzz
  obtain ⟨hz0, hz1, hz2⟩ := hzz
  subst hvs
  subst hux
  obtain ⟨v', w', hrun, r1, r2, r3⟩ := run_append (P := P) o.type ht hi hz0 hz1 hz2 hzs hs0 hv hu h1 hbase n m hn hm hb hmax
  unfold Oper.wp
  simp [execOp, hop, resolve, invoke, builtin, hrun, Result.andThen]
  exact h v' w' r1 r2 r3
end
end
end Go.Proofs.Ytccbkagmglddfaa
