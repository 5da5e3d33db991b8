/- The walks of the four laws of crc. -/
import Derived.Test.YtehhgfkbcjbciaaLaw1
namespace Go.Proofs.Ytehhgfkbcjbciaa
open Go.RowKit

set_option maxRecDepth 100000 in
set_option maxHeartbeats 400000 in
theorem crcAll_walk (A1 A2 : Option Addr) (n1 n2 c1 c2 : Nat) (a b : List UInt8) (w : World) (hn1 : n1 = a.length) (hn2 : n2 = b.length) (h1 : n1 ≤ c1) (h2 : n2 ≤ c2) (m1 : c1 ≤ maxLen) (m2 : c2 ≤ maxLen)
    (ra : Rd w w.heap.size A1 (a.map B)) (rb : Rd w w.heap.size A2 (b.map B)) :
    Calls Try.prog 5 #[.slice A1 n1 c1, .slice A2 n2 c2] w fun e w' => e = .returned (.bool true) ∧ Below w.heap.size w w' := by
  subst hn1 hn2
  go_enter Try.func5, Try.ntmps5
  go_wp2_with fail
  refine (begun1_any _).mono ?_
  rintro e w1 ⟨rfl, hb1⟩
  go_wp2_with fail
  refine (short_any A1 _ c1 300 a _ w.heap.size rfl h1 m1 (by omega) (ra.below hb1)).mono ?_
  rintro e w' ⟨⟨rfl, ra1⟩, rfl⟩
  have l1 : (a.take 300).length ≤ 300 := List.length_take_le _ _
  have k1 : (a.take 300).length ≤ c1 := by simp; omega
  generalize a.take 300 = a' at *
  go_wp2_with fail
  refine (short_any A2 _ c2 300 b _ w.heap.size rfl h2 m2 (by omega) (rb.below hb1)).mono ?_
  rintro e w' ⟨⟨rfl, rb1⟩, rfl⟩
  have l2 : (b.take 300).length ≤ 300 := List.length_take_le _ _
  have k2 : (b.take 300).length ≤ c2 := by simp; omega
  generalize b.take 300 = b' at *
  clear ra rb h1 h2
  have hb2 := hb1.size
  have mx : 140737488355328 ≤ maxLen := by unfold maxLen; omega
  go_wp2_with (first
    | (at_builtin; refine wpList_append_u8 rfl (.const (.slice none 0 0)) (.tmp 14) rfl w.heap.size (.slice none 0 0) [] rfl (OwnB.nil _ _) w.heap.size A1 a'.length c1 a' rfl rfl ra1 (by simp; omega) hb1.size ?_; intro v2 w2 own2 g2; rw [List.nil_append] at own2; have rb2 := rb1.grown g2 hb2 (fun _ h => by cases h); have ra2 := ra1.grown g2 hb2 (fun _ h => by cases h))
    | (at_builtin; refine wpList_append_u8 rfl (.tmp 15) (.tmp 16) rfl w.heap.size v2 a' rfl own2 w.heap.size A2 b'.length c2 b' rfl rfl rb2 (by omega) (Nat.le_trans hb2 g2.size) ?_; intro v3 w3 own3 g3))
  have hb3 : Below w.heap.size w w3 := (hb1.grown g2 hb2 (fun _ h => by cases h)).grown g3 (Nat.le_trans hb2 g2.size) (fun k hk => (own2.lt k hk).1)
  have ra3 := ra2.grown g3 (Nat.le_trans hb2 g2.size) (fun k hk => (own2.lt k hk).1)
  have rb3 := rb2.grown g3 (Nat.le_trans hb2 g2.size) (fun k hk => (own2.lt k hk).1)
  have l3 : (a' ++ b').length ≤ maxLen := by rw [List.length_append]; omega
  generalize hcc : a' ++ b' = cc at own3 l3
  have Hcc := Lib.hid hcc
  clear hcc
  obtain ⟨A3, c3, rfl, hc3, hm3, r3, _⟩ := own3.slice
  clear own2 own3 g2 g3 ra2 rb2 ra1 rb1 hb1
  refine (crcSum_any A3 _ c3 cc w3 _ rfl r3 l3).mono ?_
  rintro e w' ⟨rfl, rfl⟩
  go_wp2_with fail
  refine (refSum_any A3 _ c3 cc w3 _ rfl r3 l3).mono ?_
  rintro e w' ⟨rfl, rfl⟩
  go_wp2_with fail
  refine (crcSum_any A1 _ c1 a' w3 _ rfl ra3 (by omega)).mono ?_
  rintro e w' ⟨rfl, rfl⟩
  go_wp2_with fail
  refine (crcMore_any (crcSum a') A2 _ c2 b' w3 _ rfl rb3 (by omega)).mono ?_
  rintro e w' ⟨rfl, rfl⟩
  go_wp2_with fail
  refine (crcSum_any A3 _ c3 cc w3 _ rfl r3 l3).mono ?_
  rintro e w' ⟨rfl, rfl⟩
  rw [crcMore_sum, Hcc.out]
  go_wp2
  go_ret
  exact ⟨rfl, hb3⟩

end Go.Proofs.Ytehhgfkbcjbciaa
