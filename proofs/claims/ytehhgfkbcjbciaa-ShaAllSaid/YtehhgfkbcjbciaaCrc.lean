/- crc.Sum, crc.More and the reference's Sum are the sum of the plain laws. -/
import Derived.Test.YtehhgfkbcjbciaaCrcPlain
namespace Go.Proofs.Ytehhgfkbcjbciaa
open Go.RowKit

theorem one_and (x : W32) : x &&& 1#32 = if x.getLsbD 0 then 1#32 else 0#32 := by
  apply BitVec.eq_of_getLsbD_eq
  intro i hi
  rcases i with _ | i
  · cases h : x.getLsbD 0 <;> simp [h] <;> simpa using h
  · cases h : x.getLsbD 0 <;> simp [BitVec.getLsbD_one]

theorem bit_walk (x : W32) : bits .xor .u32 (U x / 2) (bits .and .u32 2197175160 (-bits .and .u32 (U x) 1 % 4294967296)) = U (bitStep x) := by
  have h1 : (1 : Int) = U 1#32 := by decide
  have h2 : (2197175160 : Int) = U poly := by decide
  have h3 : ∀ y : W32, -(U y) % 4294967296 = U (-y) := fun y => by rw [← U_neg, IntKind.wrap_u32]
  rw [h1, h2, U_and, h3, U_and, U_shr1, U_xor, one_and]
  congr 1
  unfold bitStep
  cases x.getLsbD 0
  · simp
  · rw [if_pos rfl, if_pos rfl, show (-1#32 : W32) = BitVec.allOnes 32 from by decide, BitVec.and_allOnes]

theorem crcFold_snoc (x : W32) (l : List UInt8) (k : Nat) (h : k < l.length) : crcFold x (l.take (k + 1)) = stepN 8 (crcFold x (l.take k) ^^^ w8 l[k]) := by
  unfold crcFold
  rw [List.take_succ_eq_append_getElem h, List.foldl_append]
  rfl

set_option maxHeartbeats 400000 in
theorem crcMore_any (s : W32) (A : Option Addr) (n c : Nat) (l : List UInt8) (w : World) (D : Nat) (hn : n = l.length) (hr : Rd w D A (l.map B)) (hm : n ≤ maxLen) :
    Calls Try.prog 23 #[.int .u32 (U s), .slice A n c] w fun e w' => e = .returned (.int .u32 (U (crcMore s l))) ∧ w = w' := by
  unfold maxLen at hm
  subst hn
  go_enter Try.func23, Try.ntmps23
  go_wp2
  rw [U_not]
  go_loop [5, 12] (fun x i => ∃ k : Nat, k ≤ l.length ∧ i = .int .i64 k ∧ x = .int .u32 (U (crcFold (~~~ s) (l.take k)))) (fun _ i => l.length - (intOf i).toNat)
  case atStart => exact ⟨0, Nat.zero_le _, rfl, rfl⟩
  case round =>
    obtain ⟨k, hk, rfl, rfl⟩ := hrel
    by_cases hlt : k < l.length
    · obtain ⟨b, off, rfl, hb, hc⟩ := hr.at_ (k := k) (by simpa using hlt)
      simp only [List.getElem_map, B] at hc
      go_wp2
      rw [U_byte_mod, U_xor]
      generalize hX : crcFold (~~~ s) (l.take k) ^^^ w8 l[k] = X
      have HX := Lib.hid hX
      clear hX
      go_loop [5, 20] (fun x j => ∃ q : Nat, q ≤ 8 ∧ j = .int .i64 q ∧ x = .int .u32 (U (stepN q X))) (fun _ j => 8 - (intOf j).toNat)
      case atStart => exact ⟨0, Nat.zero_le _, rfl, rfl⟩
      case round =>
        obtain ⟨q, hq, rfl, rfl⟩ := hrel
        by_cases hq8 : q < 8
        · go_wp2
          go_round
          case rel => exact ⟨q + 1, by omega, by go_num, by rw [bit_walk]; rfl⟩
          case measure => simp [intOf]; omega
        · go_wp2
          go_round
          case rel => exact ⟨k + 1, by omega, by go_num, by (obtain rfl : q = 8 := by omega); rw [crcFold_snoc _ _ _ hlt, HX.out]⟩
          case measure => simp [intOf]; omega
    · go_wp2
      go_ret
      obtain rfl : k = l.length := by omega
      refine ⟨?_, rfl⟩
      rw [List.take_length, U_not]
      rfl

theorem crcSum_any (A : Option Addr) (n c : Nat) (l : List UInt8) (w : World) (D : Nat) (hn : n = l.length) (hr : Rd w D A (l.map B)) (hm : n ≤ maxLen) :
    Calls Try.prog 22 #[.slice A n c] w fun e w' => e = .returned (.int .u32 (U (crcSum l))) ∧ w = w' := by
  go_enter Try.func22, Try.ntmps22
  go_wp2_with fail
  rw [show (.int .u32 0 : Value) = .int .u32 (U 0#32) from rfl]
  refine (crcMore_any 0#32 A _ c l _ D rfl hr (hn ▸ hm)).mono ?_
  rintro e w' ⟨rfl, rfl⟩
  go_wp2
  go_ret
  exact ⟨rfl, rfl⟩

/-- the word at the beginning -/
def ones : W32 := ~~~ 0#32

theorem odd_U (x : W32) (h : U x % 2 = 1) : bits .xor .u32 (U x / 2) 2197175160 = U (bitStep x) := by
  have h2 : (2197175160 : Int) = U poly := by decide
  have hl : x.getLsbD 0 = true := by
    rw [BitVec.getLsbD, Nat.testBit_zero]
    unfold U at h
    exact decide_eq_true (by omega)
  rw [h2, U_shr1, U_xor, bitStep, hl, if_pos rfl]

theorem even_U (x : W32) (h : U x % 2 = 0) : U x / 2 = U (bitStep x) := by
  have hl : x.getLsbD 0 = false := by
    rw [BitVec.getLsbD, Nat.testBit_zero]
    unfold U at h
    exact decide_eq_false (by omega)
  rw [U_shr1, bitStep, hl, if_neg (by simp), BitVec.xor_zero]

theorem par_U (x : W32) : U x % 2 = 1 ∨ U x % 2 = 0 := by omega

set_option maxHeartbeats 400000 in
theorem refSum_any (A : Option Addr) (n c : Nat) (l : List UInt8) (w : World) (D : Nat) (hn : n = l.length) (hr : Rd w D A (l.map B)) (hm : n ≤ maxLen) :
    Calls Try.prog 24 #[.slice A n c] w fun e w' => e = .returned (.int .u32 (U (crcSum l))) ∧ w = w' := by
  unfold maxLen at hm
  subst hn
  go_enter Try.func24, Try.ntmps24
  go_wp2
  rw [show (4294967295 : Int) = U (crcFold (ones) (l.take 0)) from rfl]
  go_loop [3, 4] (fun x i => ∃ k : Nat, k ≤ l.length ∧ i = .int .i64 k ∧ x = .int .u32 (U (crcFold (ones) (l.take k)))) (fun _ i => l.length - (intOf i).toNat)
  case atStart => exact ⟨0, Nat.zero_le _, rfl, rfl⟩
  case round =>
    obtain ⟨k, hk, rfl, rfl⟩ := hrel
    by_cases hlt : k < l.length
    · obtain ⟨b, off, rfl, hb, hc⟩ := hr.at_ (k := k) (by simpa using hlt)
      simp only [List.getElem_map, B] at hc
      go_wp2
      rw [U_byte_mod, U_xor]
      generalize hX : crcFold (ones) (l.take k) ^^^ w8 l[k] = X
      have HX := Lib.hid hX
      clear hX
      go_loop [3, 5] (fun x j => ∃ q : Nat, q ≤ 8 ∧ j = .int .i64 q ∧ x = .int .u32 (U (stepN q X))) (fun _ j => 8 - (intOf j).toNat)
      case atStart => exact ⟨0, Nat.zero_le _, rfl, rfl⟩
      case round =>
        obtain ⟨q, hq, rfl, rfl⟩ := hrel
        by_cases hq8 : q < 8
        · have hlo := U_lo (stepN q X)
          rcases par_U (stepN q X) with hp | hp
          · have HP := Lib.hid hp
            clear hp
            have hpb : (U (stepN q X) % 2 == 1) = true := by have := HP.out; simp; omega
            go_wp2
            go_round
            case rel => exact ⟨q + 1, by omega, by go_num, by rw [odd_U _ HP.out]; rfl⟩
            case measure => simp [intOf]; omega
          · have HP := Lib.hid hp
            clear hp
            have hpb : (U (stepN q X) % 2 == 1) = false := by have := HP.out; simp; omega
            go_wp2
            go_round
            case rel => exact ⟨q + 1, by omega, by go_num, by rw [even_U _ HP.out]; rfl⟩
            case measure => simp [intOf]; omega
        · go_wp2
          go_round
          case rel => exact ⟨k + 1, by omega, by go_num, by (obtain rfl : q = 8 := by omega); rw [crcFold_snoc _ _ _ hlt, HX.out]⟩
          case measure => simp [intOf]; omega
    · go_wp2
      go_ret
      obtain rfl : k = l.length := by omega
      refine ⟨?_, rfl⟩
      rw [List.take_length, U_not]
      rfl
end Go.Proofs.Ytehhgfkbcjbciaa
