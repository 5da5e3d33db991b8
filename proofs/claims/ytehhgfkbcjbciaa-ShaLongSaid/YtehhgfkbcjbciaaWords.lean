/- 32-bit words: how the walk's numbers read as words. -/
import Derived.Test.YtehhgfkbcjbciaaBase
import Derived.Laws.BitsAll
namespace Go.Proofs.Ytehhgfkbcjbciaa
open Go.RowKit

abbrev W32 := BitVec 32

/-- a word as a number; no abbreviation: the walk is not to look into it -/
def U (x : W32) : Int := (x.toNat : Int)

theorem U_lo (x : W32) : 0 ≤ U x := Int.natCast_nonneg _
theorem U_hi (x : W32) : U x < 4294967296 := by have := x.isLt; unfold U; omega
theorem U_inj {x y : W32} (h : U x = U y) : x = y := by
  unfold U at h
  exact BitVec.eq_of_toNat_eq (by omega)

theorem ofInt_U (x : W32) : BitVec.ofInt 32 (U x) = x := by
  unfold U
  rw [BitVec.ofInt_natCast, BitVec.ofNat_toNat, BitVec.setWidth_eq]

theorem wrapU (n : Nat) (h : n < 4294967296) : IntKind.u32.wrap (n : Int) = (n : Int) := by
  rw [IntKind.wrap_u32]; omega

theorem U_xor (x y : W32) : bits .xor .u32 (U x) (U y) = U (x ^^^ y) := by
  show IntKind.u32.wrap ((BitVec.ofInt 32 (U x) ^^^ BitVec.ofInt 32 (U y)).toNat : Int) = _
  rw [ofInt_U, ofInt_U, wrapU _ (x ^^^ y).isLt]; rfl

theorem U_and (x y : W32) : bits .and .u32 (U x) (U y) = U (x &&& y) := by
  show IntKind.u32.wrap ((BitVec.ofInt 32 (U x) &&& BitVec.ofInt 32 (U y)).toNat : Int) = _
  rw [ofInt_U, ofInt_U, wrapU _ (x &&& y).isLt]; rfl

theorem U_or (x y : W32) : bits .or .u32 (U x) (U y) = U (x ||| y) := by
  show IntKind.u32.wrap ((BitVec.ofInt 32 (U x) ||| BitVec.ofInt 32 (U y)).toNat : Int) = _
  rw [ofInt_U, ofInt_U, wrapU _ (x ||| y).isLt]; rfl

theorem U_not (x : W32) : bits .xor .u32 IntKind.u32.max (U x) = U (~~~x) := by
  have e : IntKind.u32.max = U (BitVec.allOnes 32) := by decide
  rw [e, U_xor, BitVec.xor_comm, BitVec.xor_allOnes]

theorem U_add (x y : W32) : IntKind.u32.wrap (U x + U y) = U (x + y) := by
  rw [IntKind.wrap_u32]; unfold U; rw [BitVec.toNat_add]; omega

theorem U_neg (x : W32) : IntKind.u32.wrap (-(U x)) = U (-x) := by
  rw [IntKind.wrap_u32]; unfold U; rw [BitVec.toNat_neg]
  have := x.isLt
  omega

theorem U_shr (x : W32) (k : Nat) : U x / ((2 ^ k : Nat) : Int) = U (x >>> k) := by
  unfold U
  rw [BitVec.toNat_ushiftRight, Nat.shiftRight_eq_div_pow, Int.natCast_ediv]

theorem U_shr1 (x : W32) : U x / (2 : Int) = U (x >>> (1 : Nat)) := U_shr x 1

/-- a byte as a word -/
def w8 (c : UInt8) : W32 := BitVec.ofNat 32 c.toNat
theorem U_byte (c : UInt8) : U (w8 c) = (c.toNat : Int) := by
  have := c.toNat_lt
  unfold U w8
  rw [BitVec.toNat_ofNat]; omega
theorem U_byte_mod (c : UInt8) : (c.toNat : Int) % 4294967296 = U (w8 c) := by
  have := c.toNat_lt
  rw [U_byte]; omega

theorem U_lit (n : Nat) (h : n < 4294967296) : (n : Int) = U (BitVec.ofNat 32 n) := by
  unfold U; rw [BitVec.toNat_ofNat]; omega

end Go.Proofs.Ytehhgfkbcjbciaa
