/- The walk of RecordEnds. -/
import Derived.Test.YtehhgfkbcjbciaaBegun6
namespace Go.Proofs.Ytehhgfkbcjbciaa
open Go.RowKit

theorem zeros_size (n : Nat) : (⟨(List.replicate n (0 : UInt8)).toArray⟩ : ByteArray).size = n := by
  show (List.replicate n (0 : UInt8)).toArray.size = n
  simp

set_option maxRecDepth 100000 in
set_option maxHeartbeats 2000000 in
theorem recordEnds_walk (n0 : Int) (a b c : Nat) (w : World) (lo : -9223372036854775808 ≤ n0) (hi : n0 ≤ 9223372036854775807) (ha : a < 18446744073709551616) (hb : b < 18446744073709551616) (hc : c < 18446744073709551616) :
    Calls Try.prog 9 #[.int .i64 n0, .int .u64 (a : Int), .int .u64 (b : Int), .int .u64 (c : Int)] w fun e w' => e = .returned (.bool true) ∧ Below w.heap.size w w' := by
  have HA := Lib.hid (And.intro ha (And.intro hb hc))
  clear ha hb hc
  by_cases hneg : n0 < 0
  · go_enter Try.func9, Try.ntmps9
    go_wp2_with fail
    refine (begun6_any _).mono ?_
    rintro e w1 ⟨rfl, hb1⟩
    go_wp2
    go_ret
    exact ⟨rfl, hb1⟩
  · by_cases hbig : 1100 < n0
    · go_enter Try.func9, Try.ntmps9
      go_wp2_with fail
      refine (begun6_any _).mono ?_
      rintro e w1 ⟨rfl, hb1⟩
      go_wp2
      go_ret
      exact ⟨rfl, hb1⟩
    · obtain ⟨n, rfl⟩ := Int.eq_ofNat_of_zero_le (show 0 ≤ n0 by omega)
      have hn : n ≤ 1100 := by omega
      have hn0 : (0 : Int) ≤ (n : Int) := by omega
      clear lo hi hneg hbig
      obtain ⟨S, hS⟩ : ∃ S : ByteArray, ⟨(List.replicate n (0 : UInt8)).toArray⟩ = S := ⟨_, rfl⟩
      have hSs : S.size = n := by rw [← hS]; exact zeros_size n
      have HS := Lib.hid hS
      have HSS := Lib.hid hSs
      have hSm : S.size ≤ maxLen := by rw [hSs]; unfold maxLen; omega
      have MA := Lib.hid (fun W => may_any ⟨2, 0, a, b, c, S⟩ W hSm)
      have EA := Lib.hid (fun W => encode_any ⟨2, 0, a, b, c, S⟩ W ⟨by show (-9223372036854775808 : Int) ≤ 2; omega, by show (2 : Int) ≤ 9223372036854775807; omega, by show 0 < 4294967296; omega, HA.out.1, HA.out.2.1, HA.out.2.2⟩ hSm)
      have hl := Lib.hid (fun h : (⟨2, 0, a, b, c, S⟩ : Rec).may = true => (enc_len _ h).trans (by rw [hSs]))
      unfold Rec.cells at MA EA
      clear hS hSs hSm
      go_enter Try.func9, Try.ntmps9
      go_wp2_with fail
      refine (begun6_any _).mono ?_
      rintro e w1 ⟨rfl, hb1⟩
      have hsz1 := hb1.size
      go_wp2_with (at_make; go_loud (refine wpList_make_u8 rfl (.tmp 24) (.tmp 24) rfl w.heap.size n n n rfl rfl rfl rfl (by omega) hsz1 ?_; intro w2 own2 g2; have r2 : RdB w2 w2.heap.size (some ⟨w1.heap.size, 0, none⟩) (List.replicate n 0) := own2.rd; have ks := run_str_of w2 w2.heap.size (some ⟨w1.heap.size, 0, none⟩) n n (List.replicate n 0) (by simp) r2; rw [HS.out] at ks))
      all_goals
        have bel2 : Below w.heap.size w w2 := hb1.grown g2 hsz1 (fun _ h => by cases h)
        have hz2 := bel2.size
        have blk2 : Blk (w2.alloc (.cells #[.int .i64 2, .int .u32 0, .int .u64 (a : Int), .int .u64 (b : Int), .int .u64 (c : Int), .string S] 35)) w2.heap.size 35 _ := Blk.new w2 _ _
        have bel3 := bel2.alloc hz2 (.cells #[.int .i64 2, .int .u32 0, .int .u64 (a : Int), .int .u64 (b : Int), .int .u64 (c : Int), .string S] 35)
        refine (MA.out _).mono ?_
        rintro e w3 ⟨rfl, hb3⟩
        have blk3 := blk2.below hb3 (by simp)
        have bel4 := bel3.trans (hb3.mono bel3.size)
        have hz3 : w2.heap.size < w3.heap.size := blk3.lt
        obtain ⟨q0, q1, q2, q3, q4, q5⟩ := cells6 blk3
        clear blk2 bel3 hb3 g2 own2 r2 ks
        by_cases hcc : (c : Int) ≤ 1099511627776
        all_goals
          cases hm : (⟨2, 0, a, b, c, S⟩ : Rec).may with
          | true =>
            have hs := may_spec hm
            simp only at hs
            rw [HSS.out] at hs
            first
              | (exfalso; omega)
              | (clear hs
                 have HM := Lib.hid hm
                 clear hm
                 go_wp2_with fail
                 refine (EA.out _).mono ?_
                 rintro e w5 ⟨v5, rfl, own5, hb5⟩
                 obtain ⟨A5, c5, rfl, _, _, _, _⟩ := own5.slice
                 rw [hl.out HM.out]
                 have bel5 := bel4.trans (hb5.mono bel4.size)
                 clear own5 hb5
                 go_wp2
                 go_ret
                 exact ⟨by first | rfl | (simp; done) | (simp; omega), bel5⟩)
          | false =>
            have hs : ¬ (n ≤ 1000 ∧ a ≤ 1099511627776 ∧ b ≤ 1099511627776 ∧ c ≤ 1099511627776) := by
              intro h
              have : (⟨2, 0, a, b, c, S⟩ : Rec).may = true := by
                simp only [Rec.may, decide_eq_true_eq]
                rw [HSS.out]
                omega
              rw [hm] at this
              cases this
            first
              | (exfalso; omega)
              | (clear hs
                 have HM := Lib.hid (enc_no _ hm)
                 clear hm
                 go_wp2_with fail
                 refine (EA.out _).mono ?_
                 rintro e w5 ⟨v5, rfl, own5, hb5⟩
                 obtain ⟨A5, c5, rfl, _, _, _, _⟩ := own5.slice
                 rw [HM.out]
                 have bel5 := bel4.trans (hb5.mono bel4.size)
                 clear own5 hb5
                 have hne : ((0 : Int) == 39 + (n : Int)) = false := by simp; omega
                 go_wp2
                 go_ret
                 exact ⟨by first | rfl | (simp; done) | (simp; omega), bel5⟩)
end Go.Proofs.Ytehhgfkbcjbciaa
