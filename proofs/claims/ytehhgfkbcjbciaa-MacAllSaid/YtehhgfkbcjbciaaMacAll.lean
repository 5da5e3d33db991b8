/- stillroomlaw3.MacAll returns true. -/
import Derived.Test.YtehhgfkbcjbciaaBegun3
import Derived.Test.YtehhgfkbcjbciaaRefMac
import Derived.Test.YtehhgfkbcjbciaaArrEq
import Derived.Test.YtehhgfkbcjbciaaLaw1
import Derived.Test.YtehhgfkbcjbciaaAppZeros
import Derived.Deep.Cut
namespace Go.Proofs.Ytehhgfkbcjbciaa
open Go.RowKit

set_option maxRecDepth 100000 in
set_option maxHeartbeats 4000000 in
theorem macAll_walk (A0 A1 : Option Addr) (c0 c1 : Nat) (l0 l1 : List UInt8) (n2 : Int) (w : World) (h0 : l0.length ≤ c0) (h1 : l1.length ≤ c1) (m0 : c0 ≤ maxLen) (m1 : c1 ≤ maxLen) (r0 : RdB w w.heap.size A0 l0) (r1 : RdB w w.heap.size A1 l1) :
    Calls Try.prog 18 #[.slice A0 l0.length c0, .slice A1 l1.length c1, .int .i64 n2] w fun e w' => e = .returned (.bool true) ∧ Below w.heap.size w w' := by
  have R0 := Lib.hid r0
  have R1 := Lib.hid r1
  clear r0 r1
  go_enter Try.func18, Try.ntmps18
  go_wp2_with fail
  refine (begun3 _).mono ?_
  rintro e w1 ⟨rfl, hb1⟩
  have BEL1 := Lib.hid hb1
  have hs1 := hb1.size
  clear hb1
  go_wp2_with fail
  refine (short_any A0 _ c0 100 l0 _ w.heap.size rfl h0 m0 (by omega) (R0.out.below BEL1.out)).mono ?_
  rintro e w' ⟨⟨rfl, ra⟩, rfl⟩
  have la : (l0.take 100).length ≤ 100 := List.length_take_le _ _
  generalize l0.take 100 = a at *
  obtain ⟨na, hna⟩ : ∃ n, n = a.length := ⟨_, rfl⟩
  rw [← hna]
  rw [← hna] at la
  have RA := Lib.hid ra
  have NA := Lib.hid hna
  have hl0 : ([] : List UInt8).length + a.length ≤ 140737488355328 := by simp; omega
  have HL0 := Lib.hid hl0
  clear ra hna hl0
  go_wp2_with (at_builtin; refine wpList_append_u8 rfl (.const (.slice none 0 0)) (.tmp 12) rfl w.heap.size (.slice none 0 0) [] rfl (OwnB.nil _ _) w.heap.size A0 na c0 a rfl NA.out RA.out HL0.out hs1 ?_; intro v2 w2 own2 g2; rw [List.nil_append] at own2; replace own2 := Lib.hid own2; replace g2 := Lib.hid g2)
  have bel2 := BEL1.out.grown g2.out hs1 (fun k hk => by cases hk)
  have BEL2 := Lib.hid bel2
  have hs2 := bel2.size
  clear bel2 g2 BEL1 RA HL0 R0 h0 m0
  refine (short_any A1 _ c1 200 l1 _ w.heap.size rfl h1 m1 (by omega) (R1.out.below BEL2.out)).mono ?_
  rintro e w' ⟨⟨rfl, rb⟩, rfl⟩
  have lb : (l1.take 200).length ≤ 200 := List.length_take_le _ _
  have RB := Lib.hid (R1.out.take 200)
  generalize l1.take 200 = b at *
  obtain ⟨nb, hnb⟩ : ∃ n, n = b.length := ⟨_, rfl⟩
  rw [← hnb]
  rw [← hnb] at lb
  have NB := Lib.hid hnb
  clear rb hnb R1 h1 m1
  rcases (by omega : (0 < n2 ∧ n2 < 100) ∨ (0 < n2 ∧ ¬ n2 < 100) ∨ ¬ 0 < n2) with ⟨q, q'⟩ | ⟨q, q'⟩ | q
  · obtain ⟨k, rfl⟩ := Int.eq_ofNat_of_zero_le (by omega : 0 ≤ n2)
    have hk0 : 0 < k := by omega
    have hlz : a.length + k ≤ 140737488355328 := by rw [← NA.out]; omega
    have HLZ := Lib.hid hlz
    clear hlz
    go_upto_region 7 with (at_builtin; refine wpList_append_zeros_u8 rfl (.tmp 22) (.tmp 23) rfl w.heap.size v2 a rfl own2.out k rfl hk0 HLZ.out hs2 ?_; intro v3 w3 own3 g3; replace own3 := Lib.hid own3; replace g3 := Lib.hid g3)
    have bel3 := BEL2.out.grown g3.out hs2 (fun k hk => (World.ownsRow.lt own2.out k hk).1)
    have BEL3 := Lib.hid bel3
    clear bel3 g3 own2 BEL2
    obtain ⟨AK, nk, ck, rfl, hnk, _, _, rdk⟩ := own3.out.slice'
    have hkl : ((a ++ List.replicate k 0).length : Int) ≤ 300 := (by rw [List.length_append, List.length_replicate, ← NA.out]; omega)
    have OWNK := Lib.hid own3.out
    have RDK := Lib.hid rdk
    have HKL := Lib.hid hkl
    have hm := macL_len (a ++ List.replicate k 0) b
    have hgd := guard32
    have he := fun W => eq32_same W (macL (a ++ List.replicate k 0) b) hm
    have hsX := BEL3.out.size
    clear rdk hkl hm own3
    go_wp2_with fail
    refine (macSum_any AK A1 nk ck nb c1 w3.heap.size (a ++ List.replicate k 0) b w3 hnk.out NB.out RDK.out ((RB.out.below BEL3.out).mono hsX) (Nat.le_refl _) (by have := HKL.out; omega) (by rw [← NB.out]; omega)).mono ?_
    rintro e w8 ⟨rfl, b8⟩
    have bel8 := BEL3.out.trans (b8.mono hsX)
    have hs8 := bel8.size
    have BEL8 := Lib.hid bel8
    have RDK8 := Lib.hid (RDK.out.below b8)
    have hs88 := b8.size
    clear b8 bel8
    go_wp2_with fail
    refine (refMac_any AK A1 nk ck nb c1 w3.heap.size (a ++ List.replicate k 0) b w8 hnk.out NB.out RDK8.out ((RB.out.below BEL8.out).mono hsX) hs88 (by have := HKL.out; omega) (by rw [← NB.out]; omega)).mono ?_
    rintro e w9 ⟨rfl, b9⟩
    have bel9 := BEL8.out.trans (b9.mono hs8)
    go_wp2_with fail
    go_ret
    exact ⟨rfl, bel9⟩
  · go_upto_region 7 with fail
    obtain ⟨AK, nk, ck, rfl, hnk, _, _, rdk⟩ := own2.out.slice'
    have hkl : (a.length : Int) ≤ 300 := (by rw [← NA.out]; omega)
    have OWNK := Lib.hid own2.out
    have RDK := Lib.hid rdk
    have HKL := Lib.hid hkl
    have hm := macL_len a b
    have hgd := guard32
    have he := fun W => eq32_same W (macL a b) hm
    have hsX := BEL2.out.size
    clear rdk hkl hm own2
    go_wp2_with fail
    refine (macSum_any AK A1 nk ck nb c1 w2.heap.size a b w2 hnk.out NB.out RDK.out ((RB.out.below BEL2.out).mono hsX) (Nat.le_refl _) (by have := HKL.out; omega) (by rw [← NB.out]; omega)).mono ?_
    rintro e w8 ⟨rfl, b8⟩
    have bel8 := BEL2.out.trans (b8.mono hsX)
    have hs8 := bel8.size
    have BEL8 := Lib.hid bel8
    have RDK8 := Lib.hid (RDK.out.below b8)
    have hs88 := b8.size
    clear b8 bel8
    go_wp2_with fail
    refine (refMac_any AK A1 nk ck nb c1 w2.heap.size a b w8 hnk.out NB.out RDK8.out ((RB.out.below BEL8.out).mono hsX) hs88 (by have := HKL.out; omega) (by rw [← NB.out]; omega)).mono ?_
    rintro e w9 ⟨rfl, b9⟩
    have bel9 := BEL8.out.trans (b9.mono hs8)
    go_wp2_with fail
    go_ret
    exact ⟨rfl, bel9⟩
  · go_upto_region 7 with fail
    obtain ⟨AK, nk, ck, rfl, hnk, _, _, rdk⟩ := own2.out.slice'
    have hkl : (a.length : Int) ≤ 300 := (by rw [← NA.out]; omega)
    have OWNK := Lib.hid own2.out
    have RDK := Lib.hid rdk
    have HKL := Lib.hid hkl
    have hm := macL_len a b
    have hgd := guard32
    have he := fun W => eq32_same W (macL a b) hm
    have hsX := BEL2.out.size
    clear rdk hkl hm own2
    go_wp2_with fail
    refine (macSum_any AK A1 nk ck nb c1 w2.heap.size a b w2 hnk.out NB.out RDK.out ((RB.out.below BEL2.out).mono hsX) (Nat.le_refl _) (by have := HKL.out; omega) (by rw [← NB.out]; omega)).mono ?_
    rintro e w8 ⟨rfl, b8⟩
    have bel8 := BEL2.out.trans (b8.mono hsX)
    have hs8 := bel8.size
    have BEL8 := Lib.hid bel8
    have RDK8 := Lib.hid (RDK.out.below b8)
    have hs88 := b8.size
    clear b8 bel8
    go_wp2_with fail
    refine (refMac_any AK A1 nk ck nb c1 w2.heap.size a b w8 hnk.out NB.out RDK8.out ((RB.out.below BEL8.out).mono hsX) hs88 (by have := HKL.out; omega) (by rw [← NB.out]; omega)).mono ?_
    rintro e w9 ⟨rfl, b9⟩
    have bel9 := BEL8.out.trans (b9.mono hs8)
    go_wp2_with fail
    go_ret
    exact ⟨rfl, bel9⟩

end Go.Proofs.Ytehhgfkbcjbciaa
