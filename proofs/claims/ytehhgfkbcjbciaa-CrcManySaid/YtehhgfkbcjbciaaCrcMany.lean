/- The walk of CrcMany. -/
import Derived.Test.YtehhgfkbcjbciaaLaw1
namespace Go.Proofs.Ytehhgfkbcjbciaa
open Go.RowKit

theorem tmod40 (n : Int) : -39 ≤ n.tmod 40 ∧ n.tmod 40 ≤ 39 := by
  have h1 := Int.tmod_lt_of_pos n (show (0 : Int) < 40 by decide)
  have h2 := Int.lt_tmod_of_pos n (show (0 : Int) < 40 by decide)
  omega

theorem crc_cut (a : List UInt8) (p k : Nat) : crcMore (crcSum (a.take p)) ((a.drop p).take k) = crcSum (a.take (p + k)) := by
  rw [crcMore_sum, List.take_add]

set_option maxRecDepth 100000 in
set_option maxHeartbeats 400000 in
theorem crcMany_walk (A1 A2 : Option Addr) (c1 c2 : Nat) (b : List UInt8) (l : List Int) (w : World) (h1 : b.length ≤ c1) (h2 : l.length ≤ c2) (m1 : c1 ≤ maxLen) (m2 : c2 ≤ maxLen)
    (rb : RdB w w.heap.size A1 b) (rl : Rd w w.heap.size A2 (l.map (Value.int .i64))) :
    Calls Try.prog 4 #[.slice A1 b.length c1, .slice A2 l.length c2] w fun e w' => e = .returned (.bool true) ∧ Below w.heap.size w w' := by
  have mL : 300 ≤ maxLen := by unfold maxLen; omega
  have mx : l.length ≤ 9223372036854775807 := by unfold maxLen at m2; omega
  go_enter Try.func4, Try.ntmps4
  go_wp2_with fail
  refine (begun1_any _).mono ?_
  rintro e w1 ⟨rfl, hb1⟩
  go_wp2_with fail
  refine (short_any A1 _ c1 300 b _ w.heap.size rfl h1 m1 (by omega) (rb.below hb1)).mono ?_
  rintro e w' ⟨⟨rfl, ra1⟩, rfl⟩
  have rl1 := rl.below hb1
  have l1 : (b.take 300).length ≤ 300 := List.length_take_le _ _
  have k1 : (b.take 300).length ≤ c1 := by simp; omega
  generalize b.take 300 = a at *
  clear rb rl
  go_wp2_with fail
  refine (crcSum_any _ _ _ [] _ 0 rfl (Rd.nil _ _ _) (by simp [maxLen])).mono ?_
  rintro e w' ⟨rfl, rfl⟩
  go_wp2_with fail
  go_loop [6, 7, 8] (fun s at_ i => ∃ p q : Nat, p ≤ a.length ∧ q ≤ p ∧ s = .int .u32 (U (crcSum (a.take p))) ∧ at_ = .int .i64 p ∧ i = .int .i64 q) (fun _ at_ _ => a.length - (intOf at_).toNat)
  case atStart => exact ⟨0, 0, by omega, by omega, rfl, rfl, rfl⟩
  case round =>
    obtain ⟨p, q, hp, hq, rfl, rfl, rfl⟩ := hrel
    by_cases hlt : p < a.length
    · by_cases hql : q < l.length
      · obtain ⟨bb, off, rfl, hbb, hc⟩ := rl1.at_ (k := q) (by simpa using hql)
        simp only [List.getElem_map] at hc
        obtain ⟨t1, t2⟩ := tmod40 l[q]
        go_wp2_with fail
        · have hz0 : 0 ≤ l[q].tmod 40 % 40 := by omega
          generalize l[q].tmod 40 % 40 = z at *
          obtain ⟨m, rfl⟩ := Int.eq_ofNat_of_zero_le hz0
          clear hz0 t1 t2 hc
          have hle : p + (1 + m) ≤ a.length := by omega
          refine (crcMore_any (crcSum (a.take p)) _ _ _ ((a.drop p).take (1 + m)) w1 _ (by first | (simp; done) | (simp; omega)) (ra1.cut p (1 + m)) (by omega)).mono ?_
          rintro e w' ⟨rfl, rfl⟩
          rw [crc_cut]
          go_wp2_with fail
          refine (crcSum_any _ _ _ (a.take (p + (1 + m))) w1 _ (by first | (simp; done) | (simp; omega)) (ra1.take (p + (1 + m))) (by omega)).mono ?_
          rintro e w' ⟨rfl, rfl⟩
          go_wp2
          go_round
          case rel => exact ⟨p + (1 + m), q + 1, by omega, by omega, rfl, by go_num, by go_num⟩
          case measure => simp [intOf]; omega
        · have hz0 : 0 ≤ l[q].tmod 40 % 40 := by omega
          generalize l[q].tmod 40 % 40 = z at *
          clear t1 t2 hc
          refine (crcMore_any (crcSum (a.take p)) _ _ _ ((a.drop p).take (a.length - p)) w1 _ (by first | (simp; done) | (simp; omega)) (ra1.cut p (a.length - p)) (by omega)).mono ?_
          rintro e w' ⟨rfl, rfl⟩
          rw [crc_cut]
          rw [show p + (a.length - p) = a.length from by omega]
          go_wp2_with fail
          refine (crcSum_any _ _ _ (a.take (a.length)) w1 _ (by first | (simp; done) | (simp; omega)) (ra1.take (a.length)) (by omega)).mono ?_
          rintro e w' ⟨rfl, rfl⟩
          go_wp2
          go_round
          case rel => exact ⟨a.length, q + 1, by omega, by omega, by rw [List.take_length], by go_num, by go_num⟩
          case measure => simp [intOf]; omega
      · go_wp2_with fail
        · have hle : p + 1 ≤ a.length := by omega
          refine (crcMore_any (crcSum (a.take p)) _ _ _ ((a.drop p).take (1)) w1 _ (by first | (simp; done) | (simp; omega)) (ra1.cut p (1)) (by omega)).mono ?_
          rintro e w' ⟨rfl, rfl⟩
          rw [crc_cut]
          go_wp2_with fail
          refine (crcSum_any _ _ _ (a.take (p + 1)) w1 _ (by first | (simp; done) | (simp; omega)) (ra1.take (p + 1)) (by omega)).mono ?_
          rintro e w' ⟨rfl, rfl⟩
          go_wp2
          go_round
          case rel => exact ⟨p + 1, q + 1, by omega, by omega, rfl, by go_num, by go_num⟩
          case measure => simp [intOf]; omega
        · refine (crcMore_any (crcSum (a.take p)) _ _ _ ((a.drop p).take (a.length - p)) w1 _ (by first | (simp; done) | (simp; omega)) (ra1.cut p (a.length - p)) (by omega)).mono ?_
          rintro e w' ⟨rfl, rfl⟩
          rw [crc_cut]
          rw [show p + (a.length - p) = a.length from by omega]
          go_wp2_with fail
          refine (crcSum_any _ _ _ (a.take (a.length)) w1 _ (by first | (simp; done) | (simp; omega)) (ra1.take (a.length)) (by omega)).mono ?_
          rintro e w' ⟨rfl, rfl⟩
          go_wp2
          go_round
          case rel => exact ⟨a.length, q + 1, by omega, by omega, by rw [List.take_length], by go_num, by go_num⟩
          case measure => simp [intOf]; omega
    · obtain rfl : p = a.length := by omega
      go_wp2_with fail
      refine (crcSum_any _ _ _ a w1 _ rfl ra1 (by omega)).mono ?_
      rintro e w' ⟨rfl, rfl⟩
      go_wp2
      go_ret
      exact ⟨rfl, hb1⟩
end Go.Proofs.Ytehhgfkbcjbciaa
