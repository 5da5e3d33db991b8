/- Plain laws of records: to bytes and back. -/
import Derived.Test.YtehhgfkbcjbciaaRec
namespace Go.Proofs.Ytehhgfkbcjbciaa

/-- a record's body as a list -/
def Rec.bytes (R : Rec) : List UInt8 := R.body.data.toList

theorem Rec.bytes_len (R : Rec) : R.bytes.length = R.body.size := by unfold Rec.bytes; rw [Array.length_toList]; rfl

/-- a head but for its sum -/
def hd (R : Rec) : List UInt8 := [83, 82, UInt8.ofNat R.kind.toNat] ++ put R.tenant 4 ++ put R.epoch 8 ++ put R.object 8 ++ put R.seq 8 ++ put R.body.size 4

theorem hd_len (R : Rec) : (hd R).length = 35 := by simp [hd, put_len]

/-- a record's bytes -/
def enc (R : Rec) : List UInt8 := if R.may then hd R ++ put (crcSum (hd R ++ R.bytes)).toNat 4 ++ R.bytes else []

theorem enc_len (R : Rec) (h : R.may = true) : (enc R).length = 39 + R.body.size := by
  simp [enc, h, hd_len, put_len, R.bytes_len]; omega

end Go.Proofs.Ytehhgfkbcjbciaa
