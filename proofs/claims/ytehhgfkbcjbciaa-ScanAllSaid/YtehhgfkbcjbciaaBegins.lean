/- record.begins. -/
import Derived.Test.YtehhgfkbcjbciaaBox
import Derived.Test.YtehhgfkbcjbciaaPlan
namespace Go.Proofs.Ytehhgfkbcjbciaa
open Go.RowKit

/-- may bytes be a record's beginning? -/
def beg (l : List UInt8) : Bool := decide (∀ i, i < min l.length 2 → l.getD i 0 = [83, 82].getD i 0) && (decide (l.length ≤ 2) || (decide (1 ≤ (l.getD 2 0).toNat) && decide ((l.getD 2 0).toNat ≤ 4)))

theorem beg_false {l : List UInt8} {k : Nat} (h : k < min l.length 2) (h1 : l.getD k 0 ≠ [83, 82].getD k 0) : beg l = false := by
  unfold beg
  rw [decide_eq_false (fun h2 => h1 (h2 k h)), Bool.false_and]

theorem u8_ne (c : UInt8) (n : Nat) (h : c.toNat ≠ n) : ((c.toNat : Int) != (n : Int)) = true := by simp; omega
theorem u8_eq (c : UInt8) (n : Nat) (h : c.toNat = n) : ((c.toNat : Int) != (n : Int)) = false := by simp; omega

set_option maxHeartbeats 1000000 in
theorem begins_any (A : Option Addr) (c : Nat) (l : List UInt8) (w : World) (D : Nat) (hr : RdB w D A l) (hD : D ≤ w.heap.size) (hc : l.length ≤ maxLen) :
    Calls Try.prog 55 #[.slice A l.length c] w fun e w' => e = .returned (.bool (beg l)) ∧ Below w.heap.size w w' := by
  unfold maxLen at hc
  obtain ⟨m, hm⟩ : ∃ m, min l.length 2 = m := ⟨_, rfl⟩
  have Hm := Lib.hid hm
  have hm2 : m ≤ 2 := by omega
  have hml : m ≤ l.length := by omega
  clear hm
  go_enter Try.func55, Try.ntmps55
  go_wp2_with (refine wpList_min rfl (.tmp 5) (.const (.int .i64 2)) rfl l.length 2 m rfl rfl Hm.out ?_)
  go_loopw [7] (fun i wr => ∃ k : Nat, k ≤ m ∧ i = .int .i64 k ∧ (∀ j, j < k → l.getD j 0 = [83, 82].getD j 0) ∧ Below w.heap.size w wr) (fun i _ => m - (intOf i).toNat)
  case atStart => exact ⟨0, by omega, rfl, by omega, Below.refl _ _⟩
  case round =>
    obtain ⟨k, hk, rfl, hall, bel⟩ := hrel
    have Hall := Lib.hid hall
    clear hall
    have hr1 := hr.keep (fun p hp => bel.cell (p := p) (by omega))
    by_cases hlt : k < m
    · obtain ⟨b, off, rfl, hb, hcell⟩ := Rd.at_ hr1 (k := k) (by simp; omega)
      simp only [List.getElem_map, B] at hcell
      have hgd : l.getD k 0 = l[k] := by rw [List.getD_eq_getElem?_getD, List.getElem?_eq_getElem (by omega)]; rfl
      have Hgd := Lib.hid hgd
      clear hgd
      rcases (show k = 0 ∨ k = 1 by omega) with rfl | rfl
      · by_cases h0 : l[0].toNat = 83
        · have t0 : ((l[0].toNat : Int) != ((({ data := #[83, 82] } : ByteArray)[0]).toNat : Int)) = false := u8_eq l[0] 83 h0
          have H0 := Lib.hid h0
          clear h0
          rw [Nat.add_zero] at hcell
          have hl0 : 0 < l.length := by omega
          go_wp2
          go_region
          go_wp2
          go_roundw
          case rel => exact ⟨1, by omega, by go_num, fun j hj => by (obtain rfl : j = 0 := by omega); rw [Hgd.out]; exact UInt8.toNat_inj.1 H0.out, bel.drew⟩
          case measure => simp [intOf]; omega
        · have t0 : ((l[0].toNat : Int) != ((({ data := #[83, 82] } : ByteArray)[0]).toNat : Int)) = true := u8_ne l[0] 83 h0
          have H0 := Lib.hid h0
          clear h0
          rw [Nat.add_zero] at hcell
          have hl0 : 0 < l.length := by omega
          go_wp2
          go_region
          go_wp2
          go_ret
          exact ⟨by rw [beg_false (k := 0) (by have := Hm.out; omega) (by rw [Hgd.out]; intro e; exact H0.out (by rw [e]; rfl))]; rfl, bel.drew⟩
      · by_cases h0 : l[1].toNat = 82
        · have t0 : ((l[1].toNat : Int) != ((({ data := #[83, 82] } : ByteArray)[1]).toNat : Int)) = false := u8_eq l[1] 82 h0
          have H0 := Lib.hid h0
          clear h0
          have hl0 : 1 < l.length := by omega
          go_wp2
          go_region
          go_wp2
          go_roundw
          case rel => exact ⟨2, by omega, by go_num, fun j hj => by (rcases (show j = 0 ∨ j = 1 by omega) with rfl | rfl); exact Hall.out 0 (by omega); rw [Hgd.out]; exact UInt8.toNat_inj.1 H0.out, bel.drew⟩
          case measure => simp [intOf]; omega
        · have t0 : ((l[1].toNat : Int) != ((({ data := #[83, 82] } : ByteArray)[1]).toNat : Int)) = true := u8_ne l[1] 82 h0
          have H0 := Lib.hid h0
          clear h0
          have hl0 : 1 < l.length := by omega
          go_wp2
          go_region
          go_wp2
          go_ret
          exact ⟨by rw [beg_false (k := 1) (by have := Hm.out; omega) (by rw [Hgd.out]; intro e; exact H0.out (by rw [e]; rfl))]; rfl, bel.drew⟩
    · obtain rfl : k = m := by omega
      have hb : ∀ i, i < min l.length 2 → l.getD i 0 = [83, 82].getD i 0 := fun i hi => Hall.out i (by have := Hm.out; omega)
      have HB := Lib.hid (show beg l = (decide (l.length ≤ 2) || (decide (1 ≤ (l.getD 2 0).toNat) && decide ((l.getD 2 0).toNat ≤ 4))) by unfold beg; rw [decide_eq_true hb, Bool.true_and])
      clear hb
      by_cases h2 : l.length ≤ 2
      · have H := Lib.hid (show beg l = true by rw [HB.out, decide_eq_true h2, Bool.true_or])
        go_wp2
        go_ret
        exact ⟨by rw [H.out]; first | rfl | (simp; omega), bel⟩
      · obtain ⟨b, off, rfl, hb, hcell⟩ := Rd.at_ hr1 (k := 2) (by simp; omega)
        simp only [List.getElem_map, B] at hcell
        have hgd : l.getD 2 0 = l[2] := by rw [List.getD_eq_getElem?_getD, List.getElem?_eq_getElem (by omega)]; rfl
        have H := Lib.hid (show beg l = (decide (1 ≤ l[2].toNat) && decide (l[2].toNat ≤ 4)) by rw [HB.out, hgd, decide_eq_false h2, Bool.false_or])
        clear hgd
        have h2' : 2 < l.length := by omega
        by_cases h3 : 1 ≤ l[2].toNat
        · by_cases h4 : l[2].toNat ≤ 4
          · have H2 := Lib.hid (show beg l = true by rw [H.out, decide_eq_true h3, decide_eq_true h4]; rfl)
            go_wp2
            go_ret
            exact ⟨by rw [H2.out]; first | rfl | (simp; omega), bel⟩
          · have H2 := Lib.hid (show beg l = false by rw [H.out, decide_eq_true h3, decide_eq_false h4]; rfl)
            go_wp2
            go_ret
            exact ⟨by rw [H2.out]; first | rfl | (simp; omega), bel⟩
        · have H2 := Lib.hid (show beg l = false by rw [H.out, decide_eq_false h3]; rfl)
          go_wp2
          go_ret
          exact ⟨by rw [H2.out]; first | rfl | (simp; omega), bel⟩
end Go.Proofs.Ytehhgfkbcjbciaa
