/- The walk of ScanInside. -/
import Derived.Test.YtehhgfkbcjbciaaScanBytes
namespace Go.Proofs.Ytehhgfkbcjbciaa
open Go.RowKit

/-- a record by a number -/
def innerR (i : Nat) (x : UInt8) : Rec := ⟨2, 0, 0, 0, i, ⟨#[x, UInt8.ofNat i]⟩⟩

theorem innerR_size (i : Nat) (x : UInt8) : (innerR i x).body.size = 2 := rfl
theorem innerR_may (i : Nat) (x : UInt8) (h : i ≤ 99) : (innerR i x).may = true := by
  show decide ((1 : Int) ≤ 2 ∧ (2 : Int) ≤ 4 ∧ 0 ≤ 1099511627776 ∧ 0 ≤ 1099511627776 ∧ i ≤ 1099511627776 ∧ 2 ≤ 1000) = true
  exact decide_eq_true (by omega)
theorem innerR_ok (i : Nat) (x : UInt8) (h : i ≤ 99) : (innerR i x).Ok :=
  ⟨by show (-9223372036854775808 : Int) ≤ 2; omega, by show (2 : Int) ≤ 9223372036854775807; omega, by show 0 < 4294967296; omega, by show 0 < 18446744073709551616; omega, by show 0 < 18446744073709551616; omega, by show i < 18446744073709551616; omega⟩

set_option maxRecDepth 100000 in
set_option maxHeartbeats 1000000 in
theorem inner_any (i : Nat) (x : UInt8) (w : World) (h : i ≤ 99) :
    Calls Try.prog 41 #[.int .i64 (i : Int), .int .u8 (x.toNat : Int)] w fun e w' => e = .returned (.agg (innerR i x).cells) ∧ Below w.heap.size w w' := by
  have hn : (UInt8.ofNat i).toNat = i := by rw [ofNat8]; omega
  have ks := run_str_of ((w.alloc (.cells #[.int .i64 0, .int .u32 0, .int .u64 0, .int .u64 0, .int .u64 0, .string ⟨#[]⟩] 35)).alloc (.cells #[.int .u8 (x.toNat : Int), .int .u8 (i : Int)] 5)) (w.heap.size + 1 + 1) (some ⟨w.heap.size + 1, 0, none⟩) 2 2 [x, UInt8.ofNat i] rfl (by
    have h := Rd.new2 w (.cells #[.int .i64 0, .int .u32 0, .int .u64 0, .int .u64 0, .int .u64 0, .string ⟨#[]⟩] 35) #[.int .u8 (x.toNat : Int), .int .u8 (i : Int)] 5 (0, 0)
    unfold RdB
    simp only [List.map_cons, List.map_nil, B, hn]
    exact h)
  have h256 : (i : Int) % 256 = (i : Int) := by omega
  have hi64 : (i : Int) % 18446744073709551616 = (i : Int) := by omega
  have Hn := Lib.hid hn
  clear hn
  unfold Rec.cells innerR
  simp only
  go_enter Try.func41, Try.ntmps41
  go_wp2
  exact bodyPost_ret (v := .agg #[.int .i64 2, .int .u32 0, .int .u64 0, .int .u64 0, .int .u64 (i : Int), .string ⟨#[x, UInt8.ofNat i]⟩]) (by simp [results, Try.results41, go_sem]) rfl ⟨rfl, ((Below.refl _ _).alloc (Nat.le_refl _) _).alloc (by simp) _⟩

set_option maxRecDepth 100000 in
set_option maxHeartbeats 2000000 in
theorem scanInside_walk (n0 : Int) (x : UInt8) (w : World) :
    Calls Try.prog 12 #[.int .i64 n0, .int .u8 (x.toNat : Int)] w fun e w' => e = .returned (.bool true) ∧ Below w.heap.size w w' := by
  by_cases h1 : n0 < 1
  · go_enter Try.func12, Try.ntmps12
    go_wp2_with fail
    refine (begun7_any _).mono ?_
    rintro e w1 ⟨rfl, hb1⟩
    go_wp2
    go_ret
    exact ⟨rfl, hb1⟩
  · by_cases h2 : 15 < n0
    · go_enter Try.func12, Try.ntmps12
      go_wp2_with fail
      refine (begun7_any _).mono ?_
      rintro e w1 ⟨rfl, hb1⟩
      go_wp2
      go_ret
      exact ⟨rfl, hb1⟩
    · obtain ⟨n, rfl⟩ := Int.eq_ofNat_of_zero_le (show 0 ≤ n0 by omega)
      have hn1 : 1 ≤ n := by omega
      have hn15 : n ≤ 15 := by omega
      clear h1 h2
      go_enter Try.func12, Try.ntmps12
      go_wp2_with fail
      refine (begun7_any _).mono ?_
      rintro e w1 ⟨rfl, hb1⟩
      go_wp2_with fail
      go_loopw [6, 7] (fun s i wr => ∃ (k : Nat) (t : ByteArray), k ≤ n ∧ i = .int .i64 k ∧ s = .string t ∧ t.size = 41 * k ∧ Below w.heap.size w wr) (fun _ i _ => n - (intOf i).toNat)
      case atStart => exact ⟨0, _, by omega, rfl, rfl, rfl, hb1⟩
      case round =>
        clear hb1
        obtain ⟨k, t, hk, rfl, rfl, ht, bel⟩ := hrel
        have hsz := bel.size
        by_cases hlt : k < n
        · have HT := Lib.hid ht
          have hts : t.size ≤ 1000 := by omega
          have EA := Lib.hid (fun W => refEncode_any (innerR k x) W (innerR_ok k x (by omega)) (by rw [innerR_size]; decide))
          have hel := Lib.hid ((enc_len _ (innerR_may k x (by omega))).trans (by rw [innerR_size]) : (enc (innerR k x)).length = 41)
          clear ht
          go_wp2_with fail
          refine (inner_any k x _ (by omega)).mono ?_
          rintro e w2 ⟨rfl, hb2⟩
          have bel2 := bel.trans (hb2.mono hsz)
          have hz2 := bel2.size
          go_wp2_with fail
          refine (EA.out _).mono ?_
          rintro e w3 ⟨v3, rfl, own3, hb3⟩
          obtain ⟨A3, c3, rfl, _, _, r3, _⟩ := own3.slice
          rw [hel.out]
          have bel3 := bel2.trans (hb3.mono hz2)
          have ks := run_str_of w3 w3.heap.size A3 c3 41 (enc (innerR k x)) hel.out r3
          obtain ⟨S, hS⟩ : ∃ S : ByteArray, ⟨(enc (innerR k x)).toArray⟩ = S := ⟨_, rfl⟩
          have hSs : S.size = 41 := by rw [← hS]; show (enc (innerR k x)).toArray.size = 41; rw [List.size_toArray, hel.out]
          rw [hS] at ks
          have hS41 : S.size ≤ 41 := by omega
          have HSS := Lib.hid hSs
          clear hS hSs own3 hb3 hb2 r3
          go_wp2_with fail
          go_roundw
          case rel => exact ⟨k + 1, t ++ S, by omega, by go_num, rfl, by rw [ByteArray.size_append, HT.out, HSS.out]; omega, bel3⟩
          case measure => simp [intOf]; omega
        · obtain rfl : k = n := by omega
          have hts : t.size ≤ 1000 := by omega
          have hmay : (⟨2, 0, 0, 0, 99, t⟩ : Rec).may = true := by
            show decide ((1 : Int) ≤ 2 ∧ (2 : Int) ≤ 4 ∧ 0 ≤ 1099511627776 ∧ 0 ≤ 1099511627776 ∧ 99 ≤ 1099511627776 ∧ t.size ≤ 1000) = true
            exact decide_eq_true (by omega)
          have hok : (⟨2, 0, 0, 0, 99, t⟩ : Rec).Ok := ⟨by show (-9223372036854775808 : Int) ≤ 2; omega, by show (2 : Int) ≤ 9223372036854775807; omega, by show 0 < 4294967296; omega, by show 0 < 18446744073709551616; omega, by show 0 < 18446744073709551616; omega, by show 99 < 18446744073709551616; omega⟩
          obtain ⟨L, hL⟩ : ∃ L : Nat, (enc ⟨2, 0, 0, 0, 99, t⟩).length = L := ⟨_, rfl⟩
          have hLe : L = 39 + t.size := by rw [← hL, enc_len _ hmay]
          have hL1 : 0 < L := by omega
          have hLm : L ≤ 1100 := by omega
          have hdec : dec (enc ⟨2, 0, 0, 0, 99, t⟩) = (⟨2, 0, 0, 0, 99, t⟩, L, 0) := by
            have h := dec_enc ⟨2, 0, 0, 0, 99, t⟩ hmay (by show 0 < 4294967296; omega) []
            rw [List.append_nil] at h
            rw [h, hLe]
          have hall : allS (enc ⟨2, 0, 0, 0, 99, t⟩) 0 = [(0, ⟨2, 0, 0, 0, 99, t⟩)] := by
            rw [allS_hit (by omega) (by rw [List.drop_zero, hdec]), List.drop_zero, hdec, allS_end (by simp only []; omega)]
          have hfront : frontS (enc ⟨2, 0, 0, 0, 99, t⟩) 0 = ([(0, ⟨2, 0, 0, 0, 99, t⟩)], L) := by
            rw [frontS_hit (by omega) (by rw [List.drop_zero, hdec]), List.drop_zero, hdec]
            simp only [Nat.zero_add]
            rw [frontS_end (by omega)]
          have IA : ∀ W : World, Calls Try.prog 41 #[.int .i64 99, .int .u8 (x.toNat : Int)] W fun e w' => e = .returned (.agg #[.int .i64 2, .int .u32 0, .int .u64 0, .int .u64 0, .int .u64 99, .string ⟨#[x, UInt8.ofNat 99]⟩]) ∧ Below W.heap.size W w' := fun W => inner_any 99 x W (by omega)
          have EA : ∀ W : World, Calls Try.prog 28 #[.agg #[.int .i64 2, .int .u32 0, .int .u64 0, .int .u64 0, .int .u64 99, .string t]] W fun e w' => ∃ v, e = .returned v ∧ OwnB w' W.heap.size v (enc ⟨2, 0, 0, 0, 99, t⟩) ∧ Below W.heap.size W w' := fun W => refEncode_any ⟨2, 0, 0, 0, 99, t⟩ W hok (by show t.size ≤ maxLen; unfold maxLen; omega)
          have IA' := Lib.hid IA
          have EA' := Lib.hid EA
          have HA := Lib.hid hall
          have HF := Lib.hid hfront
          have HL := Lib.hid hL
          clear IA EA hall hfront hdec hmay hok hLe hL ht hn1 hn15
          go_wp2_with fail
          refine (IA'.out _).mono ?_
          rintro e w2 ⟨rfl, hb2⟩
          have bel2 := bel.trans (hb2.mono hsz)
          have hz2 := bel2.size
          go_wp2_with fail
          have bel3 := bel2.alloc hz2 (.cells #[.int .i64 2, .int .u32 0, .int .u64 0, .int .u64 0, .int .u64 99, .string t] 35)
          refine (EA'.out _).mono ?_
          rintro e w4 ⟨v4, rfl, own4, hb4⟩
          obtain ⟨A4, c4, rfl, hc4, hm4, r4, _⟩ := own4.slice
          have bel4 := bel3.trans (hb4.mono bel3.size)
          have hz4 := bel4.size
          have SA : ∀ W : World, RdB W W.heap.size A4 (enc ⟨2, 0, 0, 0, 99, t⟩) → Calls Try.prog 39 #[.slice A4 L c4] W fun e w' => ∃ v, e = .returned v ∧ OwnF 60 w' W.heap.size v [(0, ⟨2, 0, 0, 0, 99, t⟩)] ∧ Below W.heap.size W w' := fun W hr => by
            have h := scanAll_any A4 c4 (enc ⟨2, 0, 0, 0, 99, t⟩) W hr (by rw [HL.out]; omega) hc4 hm4
            rwa [HL.out, HA.out] at h
          have SF : ∀ W : World, RdB W W.heap.size A4 (enc ⟨2, 0, 0, 0, 99, t⟩) → Calls Try.prog 35 #[.slice A4 L c4] W fun e w' => ∃ v, e = .returned (.tuple #[v, .int .i64 (L : Int)]) ∧ OwnF 60 w' W.heap.size v [(0, ⟨2, 0, 0, 0, 99, t⟩)] ∧ Below W.heap.size W w' := fun W hr => by
            have h := scanFront_any A4 c4 (enc ⟨2, 0, 0, 0, 99, t⟩) W hr (by rw [HL.out]; omega) hc4 hm4
            rwa [HL.out, HF.out] at h
          have SA' := Lib.hid SA
          have SF' := Lib.hid SF
          have R4 := Lib.hid r4
          rw [HL.out]
          clear SA SF r4 own4 hb4 hb2 hc4 hm4 bel3
          go_wp2_with fail
          refine (SF'.out _ R4.out).mono ?_
          rintro e w5 ⟨v5, rfl, own5, hb5⟩
          obtain ⟨A5, c5, rfl, _, _, _, _⟩ := own5.slice
          have bel5 := bel4.trans (hb5.mono hz4)
          have R5 := Lib.hid (Rd.mono (R4.out.below hb5) hb5.size)
          have hz5 := bel5.size
          clear own5 hb5
          go_wp2_with fail
          refine (SA'.out _ R5.out).mono ?_
          rintro e w6 ⟨v6, rfl, own6, hb6⟩
          obtain ⟨A6, c6, rfl, _, _, _, _⟩ := own6.slice
          have bel6 := bel5.trans (hb6.mono hz5)
          clear own6 hb6
          go_wp2
          go_ret
          exact ⟨by first | rfl | simp, bel6⟩

end Go.Proofs.Ytehhgfkbcjbciaa
