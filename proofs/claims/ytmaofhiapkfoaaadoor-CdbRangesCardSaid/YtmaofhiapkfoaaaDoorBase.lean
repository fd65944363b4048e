/- Small words that all proofs of this seat use: how bytes that a slice leads to are told, 32-bit numbers as words of bits, ends of walks. -/
import Derived.Test.YtmaofhiapkfoaaaDoorRows
import Derived.WalkKit
import Derived.WalkSpells
import Derived.WalkLawsBesides
import Derived.Lib.Hide
namespace Go.Proofs.YtmaofhiapkfoaaaDoor
open Go.RowKit
set_option linter.unusedVariables false
set_option linter.unusedSimpArgs false

theorem ret_int {k : IntKind} {a b : Int} (h : a = b) : Ending.returned (.int k a) = .returned (.int k b) := by rw [h]
theorem ret_bool {a b : Bool} (h : a = b) : Ending.returned (.bool a) = .returned (.bool b) := by rw [h]

/-- A word of 32 bits as Go's number. -/
def u32v (r : BitVec 32) : Int := (r.toNat : Int)
theorem u32v_range (r : BitVec 32) : 0 ≤ u32v r ∧ u32v r ≤ 4294967295 := by
  have := r.isLt
  unfold u32v
  omega
theorem ofInt_u32v (r : BitVec 32) : BitVec.ofInt 32 (u32v r) = r := by
  unfold u32v
  rw [BitVec.ofInt_natCast, BitVec.ofNat_toNat, BitVec.setWidth_eq]
theorem wrap_u32v (r : BitVec 32) : IntKind.u32.wrap (r.toNat : Int) = u32v r := by
  have := r.isLt
  rw [IntKind.wrap_u32']
  unfold u32v
  omega
theorem u32v_inj {r s : BitVec 32} (h : u32v r = u32v s) : r = s := by
  unfold u32v at h
  apply BitVec.eq_of_toNat_eq
  omega
theorem u32_xor (r s : BitVec 32) : bits .xor .u32 (u32v r) (u32v s) = u32v (r ^^^ s) := by
  show IntKind.u32.wrap ((BitVec.ofInt 32 (u32v r) ^^^ BitVec.ofInt 32 (u32v s)).toNat : Int) = _
  rw [ofInt_u32v, ofInt_u32v, wrap_u32v]
theorem u32_and (r s : BitVec 32) : bits .and .u32 (u32v r) (u32v s) = u32v (r &&& s) := by
  show IntKind.u32.wrap ((BitVec.ofInt 32 (u32v r) &&& BitVec.ofInt 32 (u32v s)).toNat : Int) = _
  rw [ofInt_u32v, ofInt_u32v, wrap_u32v]

/-- The number of byte j of some bytes. -/
def at8 (bs : List UInt8) (j : Nat) : Int := ((bs.getD j 0).toNat : Int)
theorem at8_range (bs : List UInt8) (j : Nat) : 0 ≤ at8 bs j ∧ at8 bs j ≤ 255 := by
  have := (bs.getD j 0).toNat_lt
  unfold at8
  omega
/-- Behind an address the bytes bs lie. -/
def BytesAt (w : World) (b off : Nat) (bs : List UInt8) : Prop := ∀ j, j < bs.length → w.cell? ⟨b, off + j, none⟩ = some (.int .u8 (at8 bs j))
end Go.Proofs.YtmaofhiapkfoaaaDoor
