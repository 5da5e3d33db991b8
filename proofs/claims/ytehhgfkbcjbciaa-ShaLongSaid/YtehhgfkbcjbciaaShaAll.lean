/- stillroomlaw2.ShaAll, ShaLong return true. -/
import Derived.Test.YtehhgfkbcjbciaaBegun2
import Derived.Test.YtehhgfkbcjbciaaRefSha
import Derived.Test.YtehhgfkbcjbciaaArrEq
import Derived.Test.YtehhgfkbcjbciaaLaw1
import Derived.Test.YtehhgfkbcjbciaaAppZeros
import Derived.Deep.Cut
namespace Go.Proofs.Ytehhgfkbcjbciaa
open Go.RowKit

set_option maxRecDepth 100000 in
set_option maxHeartbeats 4000000 in
theorem shaAll_walk (A0 : Option Addr) (c0 : Nat) (l0 : List UInt8) (n1 : Int) (w : World) (h0 : l0.length ≤ c0) (m0 : c0 ≤ maxLen) (r0 : RdB w w.heap.size A0 l0) :
    Calls Try.prog 13 #[.slice A0 l0.length c0, .int .i64 n1] w fun e w' => e = .returned (.bool true) ∧ Below w.heap.size w w' := by
  have R0 := Lib.hid r0
  clear r0
  go_enter Try.func13, Try.ntmps13
  go_wp2_with fail
  refine (begun2 _).mono ?_
  rintro e w1 ⟨rfl, hb1⟩
  have BEL1 := Lib.hid hb1
  have hs1 := hb1.size
  clear hb1
  go_wp2_with fail
  refine (short_any A0 _ c0 200 l0 _ w.heap.size rfl h0 m0 (by omega) (R0.out.below BEL1.out)).mono ?_
  rintro e w' ⟨⟨rfl, ra⟩, rfl⟩
  have la : (l0.take 200).length ≤ 200 := List.length_take_le _ _
  generalize l0.take 200 = a at *
  obtain ⟨na, hna⟩ : ∃ n, n = a.length := ⟨_, rfl⟩
  rw [← hna]
  rw [← hna] at la
  have RA := Lib.hid ra
  have NA := Lib.hid hna
  have hl0 : ([] : List UInt8).length + a.length ≤ 140737488355328 := by simp; omega
  have HL0 := Lib.hid hl0
  clear ra hna hl0 h0 m0
  go_upto_region 5 with (at_builtin; refine wpList_append_u8 rfl (.const (.slice none 0 0)) (.tmp 10) rfl w.heap.size (.slice none 0 0) [] rfl (OwnB.nil _ _) w.heap.size A0 na c0 a rfl NA.out RA.out HL0.out hs1 ?_; intro v2 w2 own2 g2; rw [List.nil_append] at own2; replace own2 := Lib.hid own2; replace g2 := Lib.hid g2)
  have bel2 := BEL1.out.grown g2.out hs1 (fun k hk => by cases hk)
  have BEL2 := Lib.hid bel2
  have hs2 := bel2.size
  clear bel2 g2 BEL1 RA HL0 R0
  rcases (by omega : (0 < n1 ∧ n1 < 300) ∨ (0 < n1 ∧ ¬ n1 < 300) ∨ ¬ 0 < n1) with ⟨q, q'⟩ | ⟨q, q'⟩ | q
  · obtain ⟨k, rfl⟩ := Int.eq_ofNat_of_zero_le (by omega : 0 ≤ n1)
    have hk0 : 0 < k := by omega
    have hlz : a.length + k ≤ 140737488355328 := by rw [← NA.out]; omega
    have HLZ := Lib.hid hlz
    clear hlz
    go_upto_region 7 with (at_builtin; refine wpList_append_zeros_u8 rfl (.tmp 18) (.tmp 19) rfl w.heap.size v2 a rfl own2.out k rfl hk0 HLZ.out hs2 ?_; intro v3 w3 own3 g3; replace own3 := Lib.hid own3; replace g3 := Lib.hid g3)
    have bel3 := BEL2.out.grown g3.out hs2 (fun k hk => (World.ownsRow.lt own2.out k hk).1)
    have BEL3 := Lib.hid bel3
    clear bel3 g3 own2 BEL2
    obtain ⟨AK, nk, ck, rfl, hnk, _, _, rdk⟩ := own3.out.slice'
    have hkl : ((a ++ List.replicate k 0).length : Int) ≤ 1000 := (by rw [List.length_append, List.length_replicate, ← NA.out]; omega)
    have OWNK := Lib.hid own3.out
    have RDK := Lib.hid rdk
    have HKL := Lib.hid hkl
    have hgd := guard32
    have he := fun W => eq32_same W (sha (a ++ List.replicate k 0)) (sha_len (a ++ List.replicate k 0))
    have hsX := BEL3.out.size
    clear rdk hkl own3
    go_wp2_with fail
    refine (shaSum_any AK nk ck w3.heap.size (a ++ List.replicate k 0) w3 hnk.out RDK.out (Nat.le_refl _) (by have := HKL.out; omega)).mono ?_
    rintro e w8 ⟨rfl, b8⟩
    have bel8 := BEL3.out.trans (b8.mono hsX)
    have hs8 := bel8.size
    have BEL8 := Lib.hid bel8
    have RDK8 := Lib.hid (RDK.out.below b8)
    have hs88 := b8.size
    clear b8 bel8
    go_wp2_with fail
    refine (refSha_any AK nk ck w3.heap.size (a ++ List.replicate k 0) w8 hnk.out RDK8.out hs88 (by rw [hnk.out]; have := HKL.out; omega)).mono ?_
    rintro e w9 ⟨rfl, b9⟩
    have bel9 := BEL8.out.trans (b9.mono hs8)
    go_wp2_with fail
    go_ret
    exact ⟨rfl, bel9⟩
  · go_upto_region 7 with fail
    obtain ⟨AK, nk, ck, rfl, hnk, _, _, rdk⟩ := own2.out.slice'
    have hkl : (a.length : Int) ≤ 1000 := (by rw [← NA.out]; omega)
    have OWNK := Lib.hid own2.out
    have RDK := Lib.hid rdk
    have HKL := Lib.hid hkl
    have hgd := guard32
    have he := fun W => eq32_same W (sha a) (sha_len a)
    have hsX := BEL2.out.size
    clear rdk hkl own2
    go_wp2_with fail
    refine (shaSum_any AK nk ck w2.heap.size a w2 hnk.out RDK.out (Nat.le_refl _) (by have := HKL.out; omega)).mono ?_
    rintro e w8 ⟨rfl, b8⟩
    have bel8 := BEL2.out.trans (b8.mono hsX)
    have hs8 := bel8.size
    have BEL8 := Lib.hid bel8
    have RDK8 := Lib.hid (RDK.out.below b8)
    have hs88 := b8.size
    clear b8 bel8
    go_wp2_with fail
    refine (refSha_any AK nk ck w2.heap.size a w8 hnk.out RDK8.out hs88 (by rw [hnk.out]; have := HKL.out; omega)).mono ?_
    rintro e w9 ⟨rfl, b9⟩
    have bel9 := BEL8.out.trans (b9.mono hs8)
    go_wp2_with fail
    go_ret
    exact ⟨rfl, bel9⟩
  · go_upto_region 7 with fail
    obtain ⟨AK, nk, ck, rfl, hnk, _, _, rdk⟩ := own2.out.slice'
    have hkl : (a.length : Int) ≤ 1000 := (by rw [← NA.out]; omega)
    have OWNK := Lib.hid own2.out
    have RDK := Lib.hid rdk
    have HKL := Lib.hid hkl
    have hgd := guard32
    have he := fun W => eq32_same W (sha a) (sha_len a)
    have hsX := BEL2.out.size
    clear rdk hkl own2
    go_wp2_with fail
    refine (shaSum_any AK nk ck w2.heap.size a w2 hnk.out RDK.out (Nat.le_refl _) (by have := HKL.out; omega)).mono ?_
    rintro e w8 ⟨rfl, b8⟩
    have bel8 := BEL2.out.trans (b8.mono hsX)
    have hs8 := bel8.size
    have BEL8 := Lib.hid bel8
    have RDK8 := Lib.hid (RDK.out.below b8)
    have hs88 := b8.size
    clear b8 bel8
    go_wp2_with fail
    refine (refSha_any AK nk ck w2.heap.size a w8 hnk.out RDK8.out hs88 (by rw [hnk.out]; have := HKL.out; omega)).mono ?_
    rintro e w9 ⟨rfl, b9⟩
    have bel9 := BEL8.out.trans (b9.mono hs8)
    go_wp2_with fail
    go_ret
    exact ⟨rfl, bel9⟩

/-- the first k bytes are x, the rest noughts -/
def fillB (x : UInt8) (n k : Nat) : List UInt8 := List.replicate k x ++ List.replicate (n - k) 0

theorem fillB_len (x : UInt8) (n k : Nat) (h : k ≤ n) : (fillB x n k).length = n := by unfold fillB; simp; omega

theorem fillB_at (x : UInt8) (n k : Nat) (h : k < n) : (fillB x n k)[k]? = some 0 := by
  unfold fillB
  rw [List.getElem?_append_right (by simp), List.length_replicate, Nat.sub_self, List.getElem?_replicate, if_pos (by omega)]

theorem fillB_set (x : UInt8) (n k : Nat) (h : k < n) : (fillB x n k).set k x = fillB x n (k + 1) := by
  obtain ⟨m, hm⟩ : ∃ m, n - k = m + 1 := ⟨n - k - 1, by omega⟩
  unfold fillB
  rw [List.set_append_right _ _ (by simp), List.length_replicate, Nat.sub_self, hm, show n - (k + 1) = m from by omega, List.replicate_succ, List.set_cons_zero, List.replicate_succ' (n := k), List.append_assoc]
  rfl

set_option maxRecDepth 100000 in
set_option maxHeartbeats 4000000 in
theorem shaLong_walk (n0 : Int) (x1 : UInt8) (w : World) :
    Calls Try.prog 16 #[.int .i64 n0, .int .u8 (x1.toNat : Int)] w fun e w' => e = .returned (.bool true) ∧ Below w.heap.size w w' := by
  go_enter Try.func16, Try.ntmps16
  go_wp2_with fail
  refine (begun2 _).mono ?_
  rintro e w1 ⟨rfl, hb1⟩
  have BEL1 := Lib.hid hb1
  have hs1 := hb1.size
  clear hb1
  rcases (by omega : n0 < 0 ∨ (¬ n0 < 0 ∧ 300 < n0) ∨ (¬ n0 < 0 ∧ ¬ 300 < n0)) with q | ⟨q, q'⟩ | ⟨q, q'⟩
  · go_wp2_with fail
    go_ret
    exact ⟨rfl, BEL1.out⟩
  · go_wp2_with fail
    go_ret
    exact ⟨rfl, BEL1.out⟩
  · obtain ⟨n, rfl⟩ := Int.eq_ofNat_of_zero_le (by omega : 0 ≤ n0)
    go_wp2_with (at_make; refine wpList_make_u8 rfl (.tmp 17) (.tmp 17) rfl w.heap.size n n n rfl rfl rfl rfl (by omega) hs1 ?_; intro w2 own2 g2; replace own2 := Lib.hid own2; replace g2 := Lib.hid g2)
    have blk2 := own2.out.blk
    have bel2 := BEL1.out.grown g2.out hs1 (fun k hk => by cases hk)
    have hg : w.heap.size ≤ w1.heap.size := hs1
    clear own2 g2 BEL1
    generalize w1.heap.size = g at *
    go_loopw [7] (fun iv wr => ∃ k : Nat, k ≤ n ∧ iv = .int .i64 k ∧ Blk wr g 5 (bcells (fillB x1 n k)) ∧ Below w.heap.size w wr) (fun iv _ => n - (intOf iv).toNat)
    case atStart => exact ⟨0, by omega, rfl, by unfold fillB; simpa using blk2, bel2⟩
    case round =>
      clear blk2 bel2
      obtain ⟨k, hk, rfl, blk, bel⟩ := hrel
      by_cases hlt : k < n
      · have hkI : (k : Int) < (n : Int) := by omega
        have ck := bcell_at blk k 0 (fillB_at x1 n k hlt)
        have fk := blk.frozen k
        have hset := Lib.hid (fillB_set x1 n k hlt)
        have BLK := Lib.hid blk
        have BEL := Lib.hid bel
        clear blk bel
        go_wp2_with fail
        refine ⟨⟨k + 1, by omega, by simp, ?_, BEL.out.setCell (p := ⟨g, k, none⟩) (by show w.heap.size ≤ g; omega) _⟩, by simp [intOf]; omega⟩
        rw [← hset.out, ← bcells_set]
        exact BLK.out.store k _
      · obtain rfl : n = k := by omega
        have hbl := fillB_len x1 n n (Nat.le_refl _)
        generalize fillB x1 n n = b at *
        have HBL := Lib.hid hbl
        have RD := Lib.hid blk.rdB
        have BEL := Lib.hid bel
        have hsz := bel.size
        have hgd := guard32
        have he := fun W => eq32_same W (sha b) (sha_len b)
        clear blk bel hlt hk hbl
        go_wp2_with fail
        refine (shaSum_any (some ⟨g, 0, none⟩) n n wr.heap.size b wr HBL.out.symm RD.out (Nat.le_refl _) (by rw [HBL.out]; omega)).mono ?_
        rintro e w8 ⟨rfl, b8⟩
        have BEL8 := Lib.hid (BEL.out.trans (b8.mono hsz))
        have RD8 := Lib.hid (RD.out.below b8)
        have hs8 := b8.size
        clear b8
        go_wp2_with fail
        refine (refSha_any (some ⟨g, 0, none⟩) n n wr.heap.size b w8 HBL.out.symm RD8.out hs8 (by omega)).mono ?_
        rintro e w9 ⟨rfl, b9⟩
        have bel9 := BEL8.out.trans (b9.mono BEL8.out.size)
        go_wp2_with fail
        go_ret
        exact ⟨rfl, bel9⟩

end Go.Proofs.Ytehhgfkbcjbciaa
