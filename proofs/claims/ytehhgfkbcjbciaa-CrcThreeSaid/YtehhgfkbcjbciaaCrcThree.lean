/- The walk of CrcThree. -/
import Derived.Test.YtehhgfkbcjbciaaCrcBurst
namespace Go.Proofs.Ytehhgfkbcjbciaa
open Go.RowKit

/-- the exclusive or of three texts -/
def three (a b c : List UInt8) : List UInt8 := List.zipWith (· ^^^ ·) (List.zipWith (· ^^^ ·) a b) c

theorem three_take (a b c : List UInt8) (n : Nat) : three (a.take n) (b.take n) (c.take n) = (three a b c).take n := by
  simp [three, List.take_zipWith]

theorem three_len (a b c : List UInt8) : (three a b c).length = min (min a.length b.length) c.length := by simp [three]

theorem three_at (a b c : List UInt8) (k : Nat) (ha : k < a.length) (hb : k < b.length) (hc : k < c.length) : (three a b c)[k]'(by rw [three_len]; omega) = a[k] ^^^ b[k] ^^^ c[k] := by
  simp [three]

/-- the first k of it, then noughts, to the length n -/
def upto3 (z : List UInt8) (n k : Nat) : List UInt8 := z.take k ++ List.replicate (n - k) 0

theorem upto3_snoc (z : List UInt8) (n k : Nat) (hk : k < n) (hz : z.length = n) : (upto3 z n k).set k (z[k]'(by omega)) = upto3 z n (k + 1) := by
  unfold upto3
  have e : n - k = (n - (k + 1)) + 1 := by omega
  have hl : (z.take k).length = k := by simp; omega
  rw [List.set_append_right _ _ (by omega), hl, Nat.sub_self, e, List.replicate_succ, List.set_cons_zero, List.take_succ_eq_append_getElem (by omega : k < z.length), List.append_assoc]
  rfl

set_option maxRecDepth 100000 in
set_option maxHeartbeats 400000 in
theorem crcThree_walk (A1 A2 A3 : Option Addr) (c1 c2 c3 : Nat) (a0 b0 d0 : List UInt8) (w : World) (h1 : a0.length ≤ c1) (h2 : b0.length ≤ c2) (h3 : d0.length ≤ c3) (m1 : c1 ≤ maxLen) (m2 : c2 ≤ maxLen) (m3 : c3 ≤ maxLen)
    (ra : RdB w w.heap.size A1 a0) (rb : RdB w w.heap.size A2 b0) (rd : RdB w w.heap.size A3 d0) :
    Calls Try.prog 7 #[.slice A1 a0.length c1, .slice A2 b0.length c2, .slice A3 d0.length c3] w fun e w' => e = .returned (.bool true) ∧ Below w.heap.size w w' := by
  have mL : 300 ≤ maxLen := by unfold maxLen; omega
  go_enter Try.func7, Try.ntmps7
  go_wp2_with fail
  refine (begun1_any _).mono ?_
  rintro e w1 ⟨rfl, hb1⟩
  go_wp2_with fail
  refine (short_any A1 _ c1 100 a0 _ w.heap.size rfl h1 m1 (by omega) (ra.below hb1)).mono ?_
  rintro e w' ⟨⟨rfl, ra1⟩, rfl⟩
  have l1 : (a0.take 100).length ≤ 100 := List.length_take_le _ _
  have k1 : (a0.take 100).length ≤ c1 := by simp; omega
  generalize a0.take 100 = a at *
  go_wp2_with fail
  refine (short_any A2 _ c2 100 b0 _ w.heap.size rfl h2 m2 (by omega) (rb.below hb1)).mono ?_
  rintro e w' ⟨⟨rfl, rb1⟩, rfl⟩
  have l2 : (b0.take 100).length ≤ 100 := List.length_take_le _ _
  have k2 : (b0.take 100).length ≤ c2 := by simp; omega
  generalize b0.take 100 = b at *
  go_wp2_with fail
  refine (short_any A3 _ c3 100 d0 _ w.heap.size rfl h3 m3 (by omega) (rd.below hb1)).mono ?_
  rintro e w' ⟨⟨rfl, rd1⟩, rfl⟩
  have l3 : (d0.take 100).length ≤ 100 := List.length_take_le _ _
  have k3 : (d0.take 100).length ≤ c3 := by simp; omega
  generalize d0.take 100 = d at *
  clear ra rb rd h1 h2 h3
  have hb2 := hb1.size
  obtain ⟨n0, hn0⟩ : ∃ n0, min b.length d.length = n0 := ⟨_, rfl⟩
  obtain ⟨n, hn⟩ : ∃ n, min a.length n0 = n := ⟨_, rfl⟩
  have Hn0 := Lib.hid hn0
  have Hn := Lib.hid hn
  have na : n ≤ a.length := by omega
  have nb : n ≤ b.length := by omega
  have nd : n ≤ d.length := by omega
  clear hn hn0
  go_wp2_with (first
    | (refine wpList_min rfl (.tmp 23) (.tmp 25) rfl b.length d.length n0 rfl rfl Hn0.out ?_)
    | (refine wpList_min rfl (.tmp 21) (.tmp 26) rfl a.length n0 n rfl rfl Hn.out ?_)
    | (at_make; refine wpList_make_u8 rfl (.tmp 28) (.tmp 28) rfl w.heap.size n n n rfl rfl rfl rfl (by omega) hb2 ?_; intro w2 own2 g2))
  have hb3 : Below w.heap.size w1 w2 := (Below.refl _ w1).grown g2 hb2 (fun _ h => by cases h)
  have hg2 := g2.size
  have hgl : w1.heap.size < w2.heap.size := (own2.lt _ rfl).2
  clear g2
  generalize hg : w1.heap.size = g at *
  clear hg
  have hz0 : (three (a.take n) (b.take n) (d.take n)).length = n := by rw [three_len]; simp; omega
  go_loopw [10] (fun i wr => ∃ k : Nat, k ≤ n ∧ i = .int .i64 k ∧ OwnB wr w.heap.size (.slice (some ⟨g, 0, none⟩) n n) (upto3 (three (a.take n) (b.take n) (d.take n)) n k) ∧ Below w.heap.size w1 wr) (fun i _ => n - (intOf i).toNat)
  case atStart => exact ⟨0, Nat.zero_le _, rfl, own2, hb3⟩
  case round =>
    obtain ⟨k, hk, rfl, own3, hb4⟩ := hrel
    clear own2 hb3
    by_cases hlt : k < n
    · obtain ⟨b1, o1, rfl, _, cell1⟩ := (ra1.below hb4).at_ (k := k) (by simp; omega)
      obtain ⟨b2, o2, rfl, _, cell2⟩ := (rb1.below hb4).at_ (k := k) (by simp; omega)
      obtain ⟨b3, o3, rfl, _, cell3⟩ := (rd1.below hb4).at_ (k := k) (by simp; omega)
      simp only [List.getElem_map, B] at cell1 cell2 cell3
      have hul : k < (upto3 (three (a.take n) (b.take n) (d.take n)) n k).length := by simp [upto3, hz0]; omega
      have cell4 := own3.cell k hul
      have hfz := own3.frozen k
      have ha : k < a.length := by omega
      have hb : k < b.length := by omega
      have hd : k < d.length := by omega
      go_wp2_with fail
      go_region
      go_wp2
      go_roundw
      case rel =>
        refine ⟨k + 1, by omega, by go_num, ?_, (hb4.setCell hb2 _).drew⟩
        have h4 := own3.store k ((three (a.take n) (b.take n) (d.take n))[k]'(by omega))
        rw [upto3_snoc _ n k hlt hz0, three_at _ _ _ k (by simp; omega) (by simp; omega) (by simp; omega)] at h4
        simp only [List.getElem_take] at h4
        rw [u8_xorB, u8_xorB]
        exact h4
      case measure => simp [intOf]; omega
    · obtain rfl : k = n := by omega
      have own4 : OwnB wr w.heap.size (.slice (some ⟨g, 0, none⟩) k k) (three (a.take k) (b.take k) (d.take k)) := by
        have e : upto3 (three (a.take k) (b.take k) (d.take k)) k k = three (a.take k) (b.take k) (d.take k) := by
          unfold upto3; rw [List.take_of_length_le (by omega)]; simp
        rw [← e]; exact own3
      obtain ⟨A4, c4, hv, hc4, hm4, r4, _⟩ := own4.slice
      have r4' : RdB wr wr.heap.size (some ⟨g, 0, none⟩) (three (a.take k) (b.take k) (d.take k)) := by
        injection hv with h1 h2 h3; rw [h1]; exact r4
      have Q4 := Lib.hid (fun m => crcSum_any (some ⟨g, 0, none⟩) k k _ (wr.drewN m) wr.heap.size hz0.symm r4' (by omega))
      have Q1 := Lib.hid (fun m => crcSum_any A1 k c1 (a.take k) (wr.drewN m) w.heap.size (by simp; omega) (RdB.take (RdB.below ra1 hb4) k) (by omega))
      have Q2 := Lib.hid (fun m => crcSum_any A2 k c2 (b.take k) (wr.drewN m) w.heap.size (by simp; omega) (RdB.take (RdB.below rb1 hb4) k) (by omega))
      have Q3 := Lib.hid (fun m => crcSum_any A3 k c3 (d.take k) (wr.drewN m) w.heap.size (by simp; omega) (RdB.take (RdB.below rd1 hb4) k) (by omega))
      have hsum : crcSum (three (a.take k) (b.take k) (d.take k)) = crcSum (a.take k) ^^^ crcSum (b.take k) ^^^ crcSum (d.take k) := crcSum_three (a := a.take k) (b := b.take k) (c := d.take k) (by simp; omega) (by simp; omega)
      have Hsum := Lib.hid hsum
      clear hsum own3 own4 hv r4 r4' hc4 hm4 hz0 ra1 rb1 rd1
      go_wp2_with fail
      go_quiet ((go_at_call 22; first | (with_reducible exact quiet_same (Q1.out _)) | (with_reducible exact quiet_same (Q2.out _)) | (with_reducible exact quiet_same (Q3.out _)) | (with_reducible exact quiet_same (Q4.out _))))
      rw [U_xor, U_xor, Hsum.out, beq_self_eq_true]
      go_wp2
      go_ret
      exact ⟨rfl, below_drewN (hb1.trans hb4) _⟩
end Go.Proofs.Ytehhgfkbcjbciaa
