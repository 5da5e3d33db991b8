/- sha.right, stillroomref1.turn. -/
import Derived.Test.YtehhgfkbcjbciaaShaPlain
import Derived.Deep.QuietTactic
namespace Go.Proofs.Ytehhgfkbcjbciaa
open Go.RowKit

theorem U_shl (x : W32) (k : Nat) : U x * ((2 ^ k : Nat) : Int) % 4294967296 = U (x <<< k) := by
  unfold U
  rw [BitVec.toNat_shiftLeft, Nat.shiftLeft_eq]
  omega

theorem rot_val (x : W32) (k : Nat) (a b : Int) (ha : a = ((2 ^ k : Nat) : Int)) (hb : b = ((2 ^ (32 - k) : Nat) : Int)) : bits .or .u32 (U x / a) (U x * b % 4294967296) = U (rotr x k) := by
  subst ha hb
  rw [U_shr, U_shl, U_or]
  rfl

theorem rot_val' (x : W32) (k : Nat) (a b : Int) (ha : a = ((2 ^ k : Nat) : Int)) (hb : b = ((2 ^ (32 - k) : Nat) : Int)) : bits .or .u32 (U x * b % 4294967296) (U x / a) = U (rotr x k) := by
  subst ha hb
  rw [U_shr, U_shl, U_or, BitVec.or_comm]
  rfl

set_option maxHeartbeats 400000 in
theorem turn2 (x : W32) (w : World) : Calls Try.prog 73 #[.int .u32 (U x), .int .i64 2] w fun e w' => e = .returned (.int .u32 (U (rotr x 2))) ∧ w = w' := by
  have h1 := U_lo x
  have h2 := U_hi x
  go_enter Try.func73, Try.ntmps73
  go_wp2
  go_ret
  exact ⟨by rw [← rot_val x 2 4 1073741824 (by decide) (by decide)]; rfl, rfl⟩

set_option maxHeartbeats 400000 in
theorem right2 (x : W32) (w : World) : Calls Try.prog 74 #[.int .u32 (U x), .int .i64 2] w fun e w' => e = .returned (.int .u32 (U (rotr x 2))) ∧ w = w' := by
  have h1 := U_lo x
  have h2 := U_hi x
  have hb : bits BinOp.and IntKind.u64 (IntKind.u64.wrap (-2)) 31 = 30 := by decide
  go_enter Try.func74, Try.ntmps74
  go_wp2
  go_ret
  exact ⟨by rw [← rot_val' x 2 4 1073741824 (by decide) (by decide)]; rfl, rfl⟩

set_option maxHeartbeats 400000 in
theorem turn6 (x : W32) (w : World) : Calls Try.prog 73 #[.int .u32 (U x), .int .i64 6] w fun e w' => e = .returned (.int .u32 (U (rotr x 6))) ∧ w = w' := by
  have h1 := U_lo x
  have h2 := U_hi x
  go_enter Try.func73, Try.ntmps73
  go_wp2
  go_ret
  exact ⟨by rw [← rot_val x 6 64 67108864 (by decide) (by decide)]; rfl, rfl⟩

set_option maxHeartbeats 400000 in
theorem right6 (x : W32) (w : World) : Calls Try.prog 74 #[.int .u32 (U x), .int .i64 6] w fun e w' => e = .returned (.int .u32 (U (rotr x 6))) ∧ w = w' := by
  have h1 := U_lo x
  have h2 := U_hi x
  have hb : bits BinOp.and IntKind.u64 (IntKind.u64.wrap (-6)) 31 = 26 := by decide
  go_enter Try.func74, Try.ntmps74
  go_wp2
  go_ret
  exact ⟨by rw [← rot_val' x 6 64 67108864 (by decide) (by decide)]; rfl, rfl⟩

set_option maxHeartbeats 400000 in
theorem turn7 (x : W32) (w : World) : Calls Try.prog 73 #[.int .u32 (U x), .int .i64 7] w fun e w' => e = .returned (.int .u32 (U (rotr x 7))) ∧ w = w' := by
  have h1 := U_lo x
  have h2 := U_hi x
  go_enter Try.func73, Try.ntmps73
  go_wp2
  go_ret
  exact ⟨by rw [← rot_val x 7 128 33554432 (by decide) (by decide)]; rfl, rfl⟩

set_option maxHeartbeats 400000 in
theorem right7 (x : W32) (w : World) : Calls Try.prog 74 #[.int .u32 (U x), .int .i64 7] w fun e w' => e = .returned (.int .u32 (U (rotr x 7))) ∧ w = w' := by
  have h1 := U_lo x
  have h2 := U_hi x
  have hb : bits BinOp.and IntKind.u64 (IntKind.u64.wrap (-7)) 31 = 25 := by decide
  go_enter Try.func74, Try.ntmps74
  go_wp2
  go_ret
  exact ⟨by rw [← rot_val' x 7 128 33554432 (by decide) (by decide)]; rfl, rfl⟩

set_option maxHeartbeats 400000 in
theorem turn11 (x : W32) (w : World) : Calls Try.prog 73 #[.int .u32 (U x), .int .i64 11] w fun e w' => e = .returned (.int .u32 (U (rotr x 11))) ∧ w = w' := by
  have h1 := U_lo x
  have h2 := U_hi x
  go_enter Try.func73, Try.ntmps73
  go_wp2
  go_ret
  exact ⟨by rw [← rot_val x 11 2048 2097152 (by decide) (by decide)]; rfl, rfl⟩

set_option maxHeartbeats 400000 in
theorem right11 (x : W32) (w : World) : Calls Try.prog 74 #[.int .u32 (U x), .int .i64 11] w fun e w' => e = .returned (.int .u32 (U (rotr x 11))) ∧ w = w' := by
  have h1 := U_lo x
  have h2 := U_hi x
  have hb : bits BinOp.and IntKind.u64 (IntKind.u64.wrap (-11)) 31 = 21 := by decide
  go_enter Try.func74, Try.ntmps74
  go_wp2
  go_ret
  exact ⟨by rw [← rot_val' x 11 2048 2097152 (by decide) (by decide)]; rfl, rfl⟩

set_option maxHeartbeats 400000 in
theorem turn13 (x : W32) (w : World) : Calls Try.prog 73 #[.int .u32 (U x), .int .i64 13] w fun e w' => e = .returned (.int .u32 (U (rotr x 13))) ∧ w = w' := by
  have h1 := U_lo x
  have h2 := U_hi x
  go_enter Try.func73, Try.ntmps73
  go_wp2
  go_ret
  exact ⟨by rw [← rot_val x 13 8192 524288 (by decide) (by decide)]; rfl, rfl⟩

set_option maxHeartbeats 400000 in
theorem right13 (x : W32) (w : World) : Calls Try.prog 74 #[.int .u32 (U x), .int .i64 13] w fun e w' => e = .returned (.int .u32 (U (rotr x 13))) ∧ w = w' := by
  have h1 := U_lo x
  have h2 := U_hi x
  have hb : bits BinOp.and IntKind.u64 (IntKind.u64.wrap (-13)) 31 = 19 := by decide
  go_enter Try.func74, Try.ntmps74
  go_wp2
  go_ret
  exact ⟨by rw [← rot_val' x 13 8192 524288 (by decide) (by decide)]; rfl, rfl⟩

set_option maxHeartbeats 400000 in
theorem turn17 (x : W32) (w : World) : Calls Try.prog 73 #[.int .u32 (U x), .int .i64 17] w fun e w' => e = .returned (.int .u32 (U (rotr x 17))) ∧ w = w' := by
  have h1 := U_lo x
  have h2 := U_hi x
  go_enter Try.func73, Try.ntmps73
  go_wp2
  go_ret
  exact ⟨by rw [← rot_val x 17 131072 32768 (by decide) (by decide)]; rfl, rfl⟩

set_option maxHeartbeats 400000 in
theorem right17 (x : W32) (w : World) : Calls Try.prog 74 #[.int .u32 (U x), .int .i64 17] w fun e w' => e = .returned (.int .u32 (U (rotr x 17))) ∧ w = w' := by
  have h1 := U_lo x
  have h2 := U_hi x
  have hb : bits BinOp.and IntKind.u64 (IntKind.u64.wrap (-17)) 31 = 15 := by decide
  go_enter Try.func74, Try.ntmps74
  go_wp2
  go_ret
  exact ⟨by rw [← rot_val' x 17 131072 32768 (by decide) (by decide)]; rfl, rfl⟩

set_option maxHeartbeats 400000 in
theorem turn18 (x : W32) (w : World) : Calls Try.prog 73 #[.int .u32 (U x), .int .i64 18] w fun e w' => e = .returned (.int .u32 (U (rotr x 18))) ∧ w = w' := by
  have h1 := U_lo x
  have h2 := U_hi x
  go_enter Try.func73, Try.ntmps73
  go_wp2
  go_ret
  exact ⟨by rw [← rot_val x 18 262144 16384 (by decide) (by decide)]; rfl, rfl⟩

set_option maxHeartbeats 400000 in
theorem right18 (x : W32) (w : World) : Calls Try.prog 74 #[.int .u32 (U x), .int .i64 18] w fun e w' => e = .returned (.int .u32 (U (rotr x 18))) ∧ w = w' := by
  have h1 := U_lo x
  have h2 := U_hi x
  have hb : bits BinOp.and IntKind.u64 (IntKind.u64.wrap (-18)) 31 = 14 := by decide
  go_enter Try.func74, Try.ntmps74
  go_wp2
  go_ret
  exact ⟨by rw [← rot_val' x 18 262144 16384 (by decide) (by decide)]; rfl, rfl⟩

set_option maxHeartbeats 400000 in
theorem turn19 (x : W32) (w : World) : Calls Try.prog 73 #[.int .u32 (U x), .int .i64 19] w fun e w' => e = .returned (.int .u32 (U (rotr x 19))) ∧ w = w' := by
  have h1 := U_lo x
  have h2 := U_hi x
  go_enter Try.func73, Try.ntmps73
  go_wp2
  go_ret
  exact ⟨by rw [← rot_val x 19 524288 8192 (by decide) (by decide)]; rfl, rfl⟩

set_option maxHeartbeats 400000 in
theorem right19 (x : W32) (w : World) : Calls Try.prog 74 #[.int .u32 (U x), .int .i64 19] w fun e w' => e = .returned (.int .u32 (U (rotr x 19))) ∧ w = w' := by
  have h1 := U_lo x
  have h2 := U_hi x
  have hb : bits BinOp.and IntKind.u64 (IntKind.u64.wrap (-19)) 31 = 13 := by decide
  go_enter Try.func74, Try.ntmps74
  go_wp2
  go_ret
  exact ⟨by rw [← rot_val' x 19 524288 8192 (by decide) (by decide)]; rfl, rfl⟩

set_option maxHeartbeats 400000 in
theorem turn22 (x : W32) (w : World) : Calls Try.prog 73 #[.int .u32 (U x), .int .i64 22] w fun e w' => e = .returned (.int .u32 (U (rotr x 22))) ∧ w = w' := by
  have h1 := U_lo x
  have h2 := U_hi x
  go_enter Try.func73, Try.ntmps73
  go_wp2
  go_ret
  exact ⟨by rw [← rot_val x 22 4194304 1024 (by decide) (by decide)]; rfl, rfl⟩

set_option maxHeartbeats 400000 in
theorem right22 (x : W32) (w : World) : Calls Try.prog 74 #[.int .u32 (U x), .int .i64 22] w fun e w' => e = .returned (.int .u32 (U (rotr x 22))) ∧ w = w' := by
  have h1 := U_lo x
  have h2 := U_hi x
  have hb : bits BinOp.and IntKind.u64 (IntKind.u64.wrap (-22)) 31 = 10 := by decide
  go_enter Try.func74, Try.ntmps74
  go_wp2
  go_ret
  exact ⟨by rw [← rot_val' x 22 4194304 1024 (by decide) (by decide)]; rfl, rfl⟩

set_option maxHeartbeats 400000 in
theorem turn25 (x : W32) (w : World) : Calls Try.prog 73 #[.int .u32 (U x), .int .i64 25] w fun e w' => e = .returned (.int .u32 (U (rotr x 25))) ∧ w = w' := by
  have h1 := U_lo x
  have h2 := U_hi x
  go_enter Try.func73, Try.ntmps73
  go_wp2
  go_ret
  exact ⟨by rw [← rot_val x 25 33554432 128 (by decide) (by decide)]; rfl, rfl⟩

set_option maxHeartbeats 400000 in
theorem right25 (x : W32) (w : World) : Calls Try.prog 74 #[.int .u32 (U x), .int .i64 25] w fun e w' => e = .returned (.int .u32 (U (rotr x 25))) ∧ w = w' := by
  have h1 := U_lo x
  have h2 := U_hi x
  have hb : bits BinOp.and IntKind.u64 (IntKind.u64.wrap (-25)) 31 = 7 := by decide
  go_enter Try.func74, Try.ntmps74
  go_wp2
  go_ret
  exact ⟨by rw [← rot_val' x 25 33554432 128 (by decide) (by decide)]; rfl, rfl⟩

end Go.Proofs.Ytehhgfkbcjbciaa
