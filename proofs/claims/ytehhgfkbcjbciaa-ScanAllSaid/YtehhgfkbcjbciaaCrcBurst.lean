/- The walk of CrcBurst. -/
import Derived.Test.YtehhgfkbcjbciaaLaw1
import Derived.RegionTactic
import Derived.ChangeAlike
namespace Go.Proofs.Ytehhgfkbcjbciaa
open Go.RowKit

theorem u8_xorB (a b : UInt8) : bits .xor .u8 (a.toNat : Int) (b.toNat : Int) = ((a ^^^ b).toNat : Int) := by
  rw [u8_xor_nat _ _ a.toNat_lt b.toNat_lt, UInt8.toNat_xor]

theorem ne_zero_u8 (c : UInt8) : ((c.toNat : Int) != 0) = (c != 0) := by
  rw [Bool.eq_iff_iff, bne_iff_ne, bne_iff_ne]
  constructor
  · intro h h2; subst h2; exact h rfl
  · intro h h2; exact h (UInt8.toNat_inj.mp (by simp; omega))

/-- b, its bytes from p on changed by x, as far as x reaches -/
def burst (b : List UInt8) (p : Nat) (x : List UInt8) : List UInt8 := b.take p ++ List.zipWith (· ^^^ ·) ((b.drop p).take x.length) x ++ b.drop (p + x.length)

theorem burst_nil (b : List UInt8) (p : Nat) : burst b p [] = b := by simp [burst]

theorem burst_len (b : List UInt8) (p : Nat) (x : List UInt8) (h : p + x.length ≤ b.length) : (burst b p x).length = b.length := by
  simp [burst]; omega

theorem burst_pre (b : List UInt8) (p : Nat) (x : List UInt8) (h : p + x.length ≤ b.length) : (b.take p ++ List.zipWith (· ^^^ ·) ((b.drop p).take x.length) x).length = p + x.length := by
  simp; omega

theorem burst_at (b : List UInt8) (p : Nat) (x : List UInt8) (i : Nat) (h : p + i < b.length) (hi : x.length = i) : (burst b p x)[p + i]? = some b[p + i] := by
  unfold burst
  have hl := burst_pre b p x (by omega)
  rw [List.getElem?_append_right (by omega), List.getElem?_drop, hl, hi, Nat.sub_self, Nat.add_zero, List.getElem?_eq_getElem h]

theorem burst_snoc (b : List UInt8) (p : Nat) (x : List UInt8) (i : Nat) (y : UInt8) (h : p + i < b.length) (hi : x.length = i) : (burst b p x).set (p + i) (b[p + i] ^^^ y) = burst b p (x ++ [y]) := by
  have hl := burst_pre b p x (by omega)
  unfold burst
  rw [List.set_append_right _ _ (by omega), hl, hi, Nat.sub_self, List.drop_eq_getElem_cons h, List.set_cons_zero]
  have e : (b.drop p).take (x ++ [y]).length = (b.drop p).take i ++ [b[p + i]] := by
    rw [List.length_append, hi, List.length_singleton, List.take_succ_eq_append_getElem (by simp; omega), List.getElem_drop]
  rw [e, List.zipWith_append (by simp; omega), List.length_append, hi, List.length_singleton]
  simp [Nat.add_assoc]

theorem any_snoc (x : List UInt8) (i : Nat) (h : i < x.length) : (x.take (i + 1)).any (· != 0) = ((x.take i).any (· != 0) || x[i] != 0) := by
  rw [List.take_succ_eq_append_getElem h, List.any_append]; simp

theorem zip_same {m x : List UInt8} (hl : m.length = x.length) (h : m = List.zipWith (· ^^^ ·) m x) : x.any (· != 0) = false := by
  induction m generalizing x with
  | nil => cases x with
    | nil => rfl
    | cons => simp at hl
  | cons a m ih => cases x with
    | nil => simp at hl
    | cons y x =>
      simp only [List.length_cons, Nat.add_right_cancel_iff] at hl
      rw [List.zipWith_cons_cons] at h
      injection h with h1 h2
      have hy : y = 0 := by
        have h3 : a ^^^ a = a ^^^ (a ^^^ y) := by rw [← h1]
        rw [← UInt8.xor_assoc, UInt8.xor_self, UInt8.zero_xor] at h3
        exact h3.symm
      rw [List.any_cons, ih hl h2, hy]; rfl

theorem burst_differs (b : List UInt8) (p : Nat) (x : List UInt8) (h : p + x.length ≤ b.length) (h4 : x.length ≤ 4) (ha : x.any (· != 0) = true) : crcSum b ≠ crcSum (burst b p x) := by
  intro he
  have e1 : b = b.take p ++ (b.drop p).take x.length ++ b.drop (p + x.length) := by
    rw [List.append_assoc, ← List.drop_drop, List.take_append_drop, List.take_append_drop]
  have hm : ((b.drop p).take x.length).length = x.length := by simp; omega
  have h2 := crcSum_burst (b.take p) ((b.drop p).take x.length) (List.zipWith (· ^^^ ·) ((b.drop p).take x.length) x) (b.drop (p + x.length)) (by simp) (by omega) (by rw [← e1]; exact he)
  have := zip_same hm h2
  rw [ha] at this
  cases this

set_option maxRecDepth 100000 in
set_option maxHeartbeats 400000 in
theorem crcBurst_walk (A1 A2 : Option Addr) (c1 c2 : Nat) (b0 : List UInt8) (n : Int) (x0 : List UInt8) (w : World) (h1 : b0.length ≤ c1) (h2 : x0.length ≤ c2) (m1 : c1 ≤ maxLen) (m2 : c2 ≤ maxLen)
    (rb : RdB w w.heap.size A1 b0) (rx : RdB w w.heap.size A2 x0) (hn1 : -9223372036854775808 ≤ n) (hn2 : n ≤ 9223372036854775807) :
    Calls Try.prog 6 #[.slice A1 b0.length c1, .int .i64 n, .slice A2 x0.length c2] w fun e w' => e = .returned (.bool true) ∧ Below w.heap.size w w' := by
  have mL : 300 ≤ maxLen := by unfold maxLen; omega
  go_enter Try.func6, Try.ntmps6
  go_wp2_with fail
  refine (begun1_any _).mono ?_
  rintro e w1 ⟨rfl, hb1⟩
  go_wp2_with fail
  refine (short_any A1 _ c1 200 b0 _ w.heap.size rfl h1 m1 (by omega) (rb.below hb1)).mono ?_
  rintro e w' ⟨⟨rfl, ra1⟩, rfl⟩
  have l1 : (b0.take 200).length ≤ 200 := List.length_take_le _ _
  have k1 : (b0.take 200).length ≤ c1 := by simp; omega
  generalize b0.take 200 = b at *
  go_wp2_with fail
  refine (short_any A2 _ c2 4 x0 _ w.heap.size rfl h2 m2 (by omega) (rx.below hb1)).mono ?_
  rintro e w' ⟨⟨rfl, rx1⟩, rfl⟩
  have l2 : (x0.take 4).length ≤ 4 := List.length_take_le _ _
  have k2 : (x0.take 4).length ≤ c2 := by simp; omega
  generalize x0.take 4 = x at *
  clear rb rx h1 h2
  go_wp2_with fail
  go_loop [8, 9] (fun s i => ∃ k : Nat, k ≤ x.length ∧ i = .int .i64 k ∧ s = .bool ((x.take k).any (· != 0))) (fun _ i => x.length - (intOf i).toNat)
  case atStart => exact ⟨0, by omega, rfl, rfl⟩
  case round =>
    obtain ⟨k, hk, rfl, rfl⟩ := hrel
    by_cases hlt : k < x.length
    · have hs := any_snoc x k hlt
      cases hany : (x.take k).any (· != 0) with
      | true =>
        rw [hany] at hs
        have HS := Lib.hid hs
        clear hs hany
        go_wp2_with fail
        go_round
        case rel => exact ⟨k + 1, by omega, by go_num, by rw [HS.out]; rfl⟩
        case measure => simp [intOf]; omega
      | false =>
        obtain ⟨bb, off, rfl, hbb, hc⟩ := rx1.at_ (k := k) (by simpa using hlt)
        simp only [List.getElem_map, B] at hc
        rw [hany] at hs
        have HS := Lib.hid hs
        clear hs hany
        go_wp2_with fail
        go_round
        case rel => exact ⟨k + 1, by omega, by go_num, by rw [HS.out, ne_zero_u8]; rfl⟩
        case measure => simp [intOf]; omega
    · obtain rfl : k = x.length := by omega
      rw [List.take_length]
      have hb2 := hb1.size
      clear hlt hk
      cases hany : x.any (· != 0) with
      | false =>
        clear hany
        by_cases h0 : n < 0
        · go_wp2_with fail
          go_ret
          exact ⟨rfl, hb1⟩
        · by_cases h3 : (b.length : Int) - x.length < n
          · go_wp2_with fail
            go_ret
            exact ⟨rfl, hb1⟩
          · go_wp2_with fail
            go_ret
            exact ⟨rfl, hb1⟩
      | true =>
        have HA := Lib.hid hany
        clear hany
        by_cases h0 : n < 0
        · go_wp2_with fail
          go_ret
          exact ⟨rfl, hb1⟩
        · by_cases h3 : (b.length : Int) - x.length < n
          · go_wp2_with fail
            go_ret
            exact ⟨rfl, hb1⟩
          · obtain ⟨p, rfl⟩ := Int.eq_ofNat_of_zero_le (show 0 ≤ n by omega)
            have hp : p + x.length ≤ b.length := by omega
            clear h0 h3
            go_wp2_with (at_builtin; refine wpList_append_u8 rfl (.const (.slice none 0 0)) (.tmp 48) rfl w.heap.size (.slice none 0 0) [] rfl (OwnB.nil _ _) w.heap.size A1 b.length c1 b rfl rfl ra1 (by simp; omega) hb2 ?_; intro v2 w2 own2 g2; rw [List.nil_append] at own2)
            have hpos : 0 < x.length := by
              rcases Nat.eq_zero_or_pos x.length with h0 | h0
              · rw [List.eq_nil_of_length_eq_zero h0] at HA
                cases HA.out
              · exact h0
            rcases own2.2 with ⟨_, hn⟩ | ⟨g, cap, cur, rfl, hbg, hg, hnc, hcm, hcs, ht⟩
            · omega
            clear hg hcs ht cur
            have hgl := (own2.lt g rfl).2
            have hb2' : Below w.heap.size w1 w2 := (Below.refl _ w1).grown g2 hb2 (fun _ h => by cases h)
            clear g2
            go_loopw [11] (fun i wr => ∃ k : Nat, k ≤ x.length ∧ i = .int .i64 k ∧ OwnB wr w.heap.size (.slice (some ⟨g, 0, none⟩) b.length cap) (burst b p (x.take k)) ∧ Below w.heap.size w1 wr) (fun i _ => x.length - (intOf i).toNat)
            case atStart => exact ⟨0, Nat.zero_le _, rfl, by rw [List.take_zero, burst_nil]; exact own2, hb2'⟩
            case round =>
              obtain ⟨k, hk, rfl, own3, hb3⟩ := hrel
              clear own2 hb2'
              have hlen := burst_len b p (x.take k) (by simp; omega)
              have ra3 := ra1.below hb3
              by_cases hlt : k < x.length
              · obtain ⟨bb, off, rfl, hbb, hc⟩ := (rx1.below hb3).at_ (k := k) (by simpa using hlt)
                simp only [List.getElem_map, B] at hc
                have hpk : p + k < b.length := by omega
                have hcell : wr.cell? ⟨g, p + k, none⟩ = some (.int .u8 (b[p + k].toNat : Int)) := by
                  have h1 := burst_at b p (x.take k) k hpk (by simp; omega)
                  have h2 := World.ownsRow.cells own3 (g := g) rfl (p + k) (B b[p + k]) (by rw [List.getElem?_map, h1]; rfl)
                  rwa [add_flat, Nat.zero_add] at h2
                have hfz := own3.frozen (p + k)
                go_wp2_with fail
                go_region
                go_wp2
                go_roundw
                case rel =>
                  refine ⟨k + 1, by omega, by go_num, ?_, (hb3.setCell hbg _).drew⟩
                  have h4 := own3.store (p + k) (b[p + k] ^^^ x[k])
                  rw [burst_snoc b p (x.take k) k x[k] hpk (by simp; omega), ← List.take_succ_eq_append_getElem hlt] at h4
                  rw [u8_xorB]
                  exact h4
                case measure => simp [intOf]; omega
              · obtain rfl : k = x.length := by omega
                rw [List.take_length] at own3
                have hd := burst_differs b p x hp l2 HA.out
                have ho := own3.slice
                obtain ⟨A3, c3, hv, hc3, hm3, r3, _⟩ := ho
                rw [hv]
                have hlb := burst_len b p x hp
                clear own3 hv hlen
                generalize burst b p x = cc at *
                have hu : (U (crcSum b) != U (crcSum cc)) = true := by
                  rw [bne_iff_ne]; exact fun h => hd (U_inj h)
                clear hd
                go_wp2_with fail
                refine (crcSum_any A1 _ c1 b wr _ rfl ra3 (by omega)).mono ?_
                rintro e w' ⟨rfl, rfl⟩
                go_wp2_with fail
                refine (crcSum_any A3 _ c3 cc wr _ hlb.symm r3 (by omega)).mono ?_
                rintro e w' ⟨rfl, rfl⟩
                go_wp2
                go_ret
                exact ⟨rfl, hb1.trans hb3⟩
end Go.Proofs.Ytehhgfkbcjbciaa
