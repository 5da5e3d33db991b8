/- The reference's Decode. -/
import Derived.Test.YtehhgfkbcjbciaaDec
import Derived.Test.YtehhgfkbcjbciaaRefEnc
import Derived.Deep.DeepCutAuto
namespace Go.Proofs.Ytehhgfkbcjbciaa
open Go.RowKit

theorem take2_of_beg {l : List UInt8} (h : ∀ j, j < 2 → l.getD j 0 = [83, 82].getD j 0) (hl : 2 ≤ l.length) : l.take 2 = [83, 82] := by
  match l, hl with
  | a :: b :: l, _ =>
    have h0 := h 0 (by omega)
    have h1 := h 1 (by omega)
    simp at h0 h1
    simp [h0, h1]

theorem RdB.cellAt {w : World} {D b off : Nat} {l : List UInt8} (h : RdB w D (some ⟨b, off, none⟩) l) (j : Nat) (hj : j < l.length) : w.cell? ⟨b, off + j, none⟩ = some (.int .u8 (l[j].toNat : Int)) ∧ b < D := by
  obtain ⟨b', off', e, hb, hc⟩ := Rd.at_ h (k := j) (by simpa using hj)
  injection e with e
  injection e with e1 e2
  subst e1 e2
  exact ⟨by simpa [B] using hc, hb⟩

theorem RdB.tail {w : World} {D b off c : Nat} {l : List UInt8} (h : RdB w D (some ⟨b, off, none⟩) l) (N : Nat) (hc : l.length ≤ c) : RdB w D (if c = 39 then some ⟨b, off, none⟩ else some ⟨b, off + 39, none⟩) ((l.drop 39).take N) := by
  split
  · rw [List.drop_of_length_le (by omega)]
    simp only [List.take_nil]
    exact Rd.nil _ _ _
  · exact h.part 39 N

/-- a list parted -/
theorem part5 (l : List UInt8) (N : Nat) : l.take (39 + N) = l.take 2 ++ (l.drop 2).take 1 ++ (l.drop 3).take 4 ++ (l.drop 7).take 8 ++ (l.drop 15).take 8 ++ (l.drop 23).take 8 ++ (l.drop 31).take 4 ++ (l.drop 35).take 4 ++ (l.drop 39).take N := by
  have h : ∀ p k (m : List UInt8), (l.drop p).take k ++ (l.drop (p + k)).take m.length = (l.drop p).take (k + m.length) := by
    intro p k m
    rw [List.take_add, List.drop_drop]
  simp only [List.append_assoc]
  rw [← List.take_append_drop 2 (l.take (39 + N))]
  have e : ∀ p k n, (l.drop p).take (k + n) = (l.drop p).take k ++ (l.drop (p + k)).take n := fun p k n => by rw [List.take_add, List.drop_drop]
  rw [List.take_take, show min 2 (39 + N) = 2 from by omega, List.drop_take, show 39 + N - 2 = 1 + (4 + (8 + (8 + (8 + (4 + (4 + N)))))) from by omega]
  rw [e 2, e 3, e 7, e 15, e 23, e 31, e 35]

theorem drop2_take1 (l : List UInt8) (h : 2 < l.length) : (l.drop 2).take 1 = [l[2]] := by
  rw [List.drop_eq_getElem_cons h]; rfl

theorem put_part (l : List UInt8) (p k : Nat) (h : p + k ≤ l.length) : put (get ((l.drop p).take k)) k = (l.drop p).take k := by
  have := put_get ((l.drop p).take k)
  rwa [part_len l p k h] at this

/-- the record that Decode reads, to bytes: its first 35 are those that were read -/
theorem hd_dec (l : List UInt8) (N : Nat) (hN : dsz l = N) (h39 : 39 + N ≤ l.length) (h2 : l.take 2 = [83, 82]) :
    hd { headRec l with body := ⟨((l.drop 39).take N).toArray⟩ } = l.take 35 := by
  have hs : (⟨((l.drop 39).take N).toArray⟩ : ByteArray).size = N := by
    show ((l.drop 39).take N).toArray.size = N
    rw [List.size_toArray, part_len l 39 N h39]
  have e := part5 l N
  have e35 : l.take 35 = l.take 2 ++ (l.drop 2).take 1 ++ (l.drop 3).take 4 ++ (l.drop 7).take 8 ++ (l.drop 15).take 8 ++ (l.drop 23).take 8 ++ (l.drop 31).take 4 := by
    have h1 : l.take 35 = (l.take (39 + N)).take 35 := by rw [List.take_take]; congr 1; omega
    rw [h1, e]
    rw [List.append_assoc _ ((l.drop 35).take 4)]
    rw [List.take_append_of_le_length (by simp; omega)]
    exact List.take_of_length_le (by simp; omega)
  have hk : UInt8.ofNat (headRec l).kind.toNat = l[2] := by
    have : l.getD 2 0 = l[2] := by rw [List.getD_eq_getElem?_getD, List.getElem?_eq_getElem (by omega)]; rfl
    simp only [headRec, this]
    simp
  rw [e35, h2, drop2_take1 l (by omega)]
  unfold hd
  simp only [hk, hs]
  have hp : put N 4 = (l.drop 31).take 4 := by rw [← hN]; exact put_part l 31 4 (by omega)
  rw [hp]
  simp only [headRec]
  rw [put_part l 3 4 (by omega), put_part l 7 8 (by omega), put_part l 15 8 (by omega), put_part l 23 8 (by omega)]
  rfl

theorem enc_dec (l : List UInt8) (N : Nat) (hN : dsz l = N) (h39 : 39 + N ≤ l.length) (h2 : l.take 2 = [83, 82]) (hm : (headRec l).may = true) (hN1 : N ≤ 1000) :
    (enc { headRec l with body := ⟨((l.drop 39).take N).toArray⟩ } = l.take (39 + N)) ↔ crcSum (l.take 35 ++ (l.drop 39).take N) = BitVec.ofNat 32 (get ((l.drop 35).take 4)) := by
  have hs : (⟨((l.drop 39).take N).toArray⟩ : ByteArray).size = N := by
    show ((l.drop 39).take N).toArray.size = N
    rw [List.size_toArray, part_len l 39 N h39]
  have hm2 : ({ headRec l with body := ⟨((l.drop 39).take N).toArray⟩ } : Rec).may = true := by
    simp only [Rec.may, decide_eq_true_eq] at hm ⊢
    rw [hs]
    omega
  have hb : ({ headRec l with body := ⟨((l.drop 39).take N).toArray⟩ } : Rec).bytes = (l.drop 39).take N := rfl
  have e : l.take (39 + N) = l.take 35 ++ (l.drop 35).take 4 ++ (l.drop 39).take N := by
    rw [show 39 + N = 35 + (4 + N) from by omega, List.take_add, List.take_add, List.drop_drop, List.append_assoc]
  have hg := get_part_lt l 35 4
  unfold enc
  rw [if_pos hm2, hd_dec l N hN h39 h2, hb, e]
  constructor
  · intro h
    have h1 := List.append_inj_left' h rfl
    have h2 := List.append_inj_right h1 rfl
    have h3 := get_put_lt (crcSum (l.take 35 ++ (l.drop 39).take N)).toNat 4 (crcSum (l.take 35 ++ (l.drop 39).take N)).isLt
    rw [h2] at h3
    rw [h3]
    simp
  · intro h
    have h4 : (crcSum (l.take 35 ++ (l.drop 39).take N)).toNat = get ((l.drop 35).take 4) := by
      rw [h, BitVec.toNat_ofNat, Nat.mod_eq_of_lt hg]
    rw [h4, put_part l 35 4 (by omega)]

set_option maxRecDepth 100000 in
set_option maxHeartbeats 4000000 in
theorem refDecode_any (A : Option Addr) (c : Nat) (l : List UInt8) (w : World) (hr : RdB w w.heap.size A l) (hc : l.length ≤ maxLen) (hcc : l.length ≤ c) :
    Calls Try.prog 57 #[.slice A l.length c] w fun e w' => e = .returned (recRes (dec l)) ∧ Below w.heap.size w w' := by
  have R0 := Lib.hid hr
  unfold maxLen at hc
  clear hr
  go_enter Try.func57, Try.ntmps57
  go_wp2
  have blk0 : Blk (w.alloc (.cells #[.int .i64 0, .int .u32 0, .int .u64 0, .int .u64 0, .int .u64 0, .string ⟨#[]⟩] 35)) w.heap.size 35 #[.int .i64 0, .int .u32 0, .int .u64 0, .int .u64 0, .int .u64 0, .string ⟨#[]⟩] := Blk.new w _ _
  have bel0 := (Below.refl w.heap.size w).alloc (Nat.le_refl _) (.cells #[.int .i64 0, .int .u32 0, .int .u64 0, .int .u64 0, .int .u64 0, .string ⟨#[]⟩] 35)
  go_loopw [6] (fun i wr => ∃ k : Nat, k ≤ 2 ∧ k ≤ l.length ∧ i = .int .i64 k ∧ (∀ j, j < k → l.getD j 0 = [83, 82].getD j 0) ∧ Blk wr w.heap.size 35 #[.int .i64 0, .int .u32 0, .int .u64 0, .int .u64 0, .int .u64 0, .string ⟨#[]⟩] ∧ Below w.heap.size w wr) (fun i _ => 2 - (intOf i).toNat)
  case atStart => exact ⟨0, by omega, by omega, rfl, by omega, blk0, bel0⟩
  case round =>
    clear blk0 bel0
    obtain ⟨k, hk, hkl, rfl, hall, blk, bel⟩ := hrel
    have Hall := Lib.hid hall
    clear hall
    have hr1 := R0.out.below bel
    by_cases hlt : k < 2
    · by_cases hlt2 : k < l.length
      · obtain ⟨b, off, rfl, hb, hcell⟩ := Rd.at_ hr1 (k := k) (by simp; omega)
        simp only [List.getElem_map, B] at hcell
        have hgd : l.getD k 0 = l[k] := by rw [List.getD_eq_getElem?_getD, List.getElem?_eq_getElem (by omega)]; rfl
        have Hgd := Lib.hid hgd
        clear hgd
        rcases (show k = 0 ∨ k = 1 by omega) with rfl | rfl
        · by_cases h0 : l[0].toNat = 83
          · have t0 : ((l[0].toNat : Int) != ((({ data := #[83, 82] } : ByteArray)[0]).toNat : Int)) = false := u8_eq l[0] 83 h0
            have H0 := Lib.hid h0
            clear h0
            rw [Nat.add_zero] at hcell
            have hl0 : 0 < l.length := by omega
            go_wp2
            go_region
            go_wp2
            go_roundw
            case rel => exact ⟨1, by omega, by omega, by go_num, fun j hj => by (obtain rfl : j = 0 := by omega); rw [Hgd.out]; exact UInt8.toNat_inj.1 H0.out, blk.drewN 1, bel.drew⟩
            case measure => simp [intOf]
          · have t0 : ((l[0].toNat : Int) != ((({ data := #[83, 82] } : ByteArray)[0]).toNat : Int)) = true := u8_ne l[0] 83 h0
            have H0 := Lib.hid h0
            clear h0
            rw [Nat.add_zero] at hcell
            have hl0 : 0 < l.length := by omega
            have D := Lib.hid (show dec l = (zeroRec, 0, 4) by rw [dec, if_pos (beg_false (k := 0) (by omega) (by rw [Hgd.out]; intro e; exact H0.out (by rw [e]; rfl)))])
            go_wp2
            go_region
            have blk1 : Blk wr.drew w.heap.size 35 _ := blk
            have bel1 := bel.drew
            clear blk bel hr1 hcell
            generalize wr.drew = w1 at *
            obtain ⟨z0, z1, z2, z3, z4, z5⟩ := cells6 blk1
            obtain ⟨f0, f1, f2, f3, f4, f5⟩ := free6 blk1
            go_wp2
            obtain ⟨w2, hw2, blk2, bel2, _⟩ := stored6 blk1 bel1 (Nat.le_refl _) (.int .i64 0) (.int .u32 0) (.int .u64 0) (.int .u64 0) (.int .u64 0) (.string ⟨#[]⟩)
            rw [← hw2]
            clear hw2 z0 z1 z2 z3 z4 z5 f0 f1 f2 f3 f4 f5
            obtain ⟨z0, z1, z2, z3, z4, z5⟩ := cells6 blk2
            exact bodyPost_ret (v := .tuple #[.agg #[.int .i64 0, .int .u32 0, .int .u64 0, .int .u64 0, .int .u64 0, .string ⟨#[]⟩], .int .i64 0, .int .i64 4]) (by simp [results, Try.results57, go_sem, z0, z1, z2, z3, z4, z5]) rfl ⟨by rw [D.out]; rfl, bel2⟩
        · by_cases h0 : l[1].toNat = 82
          · have t0 : ((l[1].toNat : Int) != ((({ data := #[83, 82] } : ByteArray)[1]).toNat : Int)) = false := u8_eq l[1] 82 h0
            have H0 := Lib.hid h0
            clear h0
            have hl0 : 1 < l.length := by omega
            go_wp2
            go_region
            go_wp2
            go_roundw
            case rel => exact ⟨2, by omega, by omega, by go_num, fun j hj => by (rcases (show j = 0 ∨ j = 1 by omega) with rfl | rfl); exact Hall.out 0 (by omega); rw [Hgd.out]; exact UInt8.toNat_inj.1 H0.out, blk.drewN 1, bel.drew⟩
            case measure => simp [intOf]
          · have t0 : ((l[1].toNat : Int) != ((({ data := #[83, 82] } : ByteArray)[1]).toNat : Int)) = true := u8_ne l[1] 82 h0
            have H0 := Lib.hid h0
            clear h0
            have hl0 : 1 < l.length := by omega
            have D := Lib.hid (show dec l = (zeroRec, 0, 4) by rw [dec, if_pos (beg_false (k := 1) (by omega) (by rw [Hgd.out]; intro e; exact H0.out (by rw [e]; rfl)))])
            go_wp2
            go_region
            have blk1 : Blk wr.drew w.heap.size 35 _ := blk
            have bel1 := bel.drew
            clear blk bel hr1 hcell
            generalize wr.drew = w1 at *
            obtain ⟨z0, z1, z2, z3, z4, z5⟩ := cells6 blk1
            obtain ⟨f0, f1, f2, f3, f4, f5⟩ := free6 blk1
            go_wp2
            obtain ⟨w2, hw2, blk2, bel2, _⟩ := stored6 blk1 bel1 (Nat.le_refl _) (.int .i64 0) (.int .u32 0) (.int .u64 0) (.int .u64 0) (.int .u64 0) (.string ⟨#[]⟩)
            rw [← hw2]
            clear hw2 z0 z1 z2 z3 z4 z5 f0 f1 f2 f3 f4 f5
            obtain ⟨z0, z1, z2, z3, z4, z5⟩ := cells6 blk2
            exact bodyPost_ret (v := .tuple #[.agg #[.int .i64 0, .int .u32 0, .int .u64 0, .int .u64 0, .int .u64 0, .string ⟨#[]⟩], .int .i64 0, .int .i64 4]) (by simp [results, Try.results57, go_sem, z0, z1, z2, z3, z4, z5]) rfl ⟨by rw [D.out]; rfl, bel2⟩
      · obtain rfl : k = l.length := by omega
        have hb : beg l = true := by
          unfold beg
          rw [decide_eq_true (fun i hi => Hall.out i (by omega)), decide_eq_true (show l.length ≤ 2 by omega)]
          rfl
        have D := Lib.hid (show dec l = (zeroRec, 0, 11) by rw [dec, if_neg (by simp [hb]), if_pos (by omega)])
        clear hb
        obtain ⟨z0, z1, z2, z3, z4, z5⟩ := cells6 blk
        obtain ⟨f0, f1, f2, f3, f4, f5⟩ := free6 blk
        go_wp2
        have blk1 := blk
        have bel1 := bel
        obtain ⟨w2, hw2, blk2, bel2, _⟩ := stored6 blk1 bel1 (Nat.le_refl _) (.int .i64 0) (.int .u32 0) (.int .u64 0) (.int .u64 0) (.int .u64 0) (.string ⟨#[]⟩)
        rw [← hw2]
        clear hw2 z0 z1 z2 z3 z4 z5 f0 f1 f2 f3 f4 f5
        obtain ⟨z0, z1, z2, z3, z4, z5⟩ := cells6 blk2
        exact bodyPost_ret (v := .tuple #[.agg #[.int .i64 0, .int .u32 0, .int .u64 0, .int .u64 0, .int .u64 0, .string ⟨#[]⟩], .int .i64 0, .int .i64 11]) (by simp [results, Try.results57, go_sem, z0, z1, z2, z3, z4, z5]) rfl ⟨by rw [D.out]; rfl, bel2⟩
    · obtain rfl : k = 2 := by omega
      have hbeg : beg l = (decide (l.length ≤ 2) || (decide (1 ≤ (l.getD 2 0).toNat) && decide ((l.getD 2 0).toNat ≤ 4))) := by
        unfold beg; rw [decide_eq_true (fun i hi => Hall.out i (by omega)), Bool.true_and]
      have HB := Lib.hid hbeg
      clear hbeg
      by_cases h2 : l.length ≤ 2
      · have D := Lib.hid (show dec l = (zeroRec, 0, 11) by rw [dec, if_neg (by rw [HB.out, decide_eq_true h2]; simp), if_pos (by omega)])
        obtain ⟨z0, z1, z2, z3, z4, z5⟩ := cells6 blk
        obtain ⟨f0, f1, f2, f3, f4, f5⟩ := free6 blk
        go_wp2
        have blk1 := blk
        have bel1 := bel
        obtain ⟨w2, hw2, blk2, bel2, _⟩ := stored6 blk1 bel1 (Nat.le_refl _) (.int .i64 0) (.int .u32 0) (.int .u64 0) (.int .u64 0) (.int .u64 0) (.string ⟨#[]⟩)
        rw [← hw2]
        clear hw2 z0 z1 z2 z3 z4 z5 f0 f1 f2 f3 f4 f5
        obtain ⟨z0, z1, z2, z3, z4, z5⟩ := cells6 blk2
        exact bodyPost_ret (v := .tuple #[.agg #[.int .i64 0, .int .u32 0, .int .u64 0, .int .u64 0, .int .u64 0, .string ⟨#[]⟩], .int .i64 0, .int .i64 11]) (by simp [results, Try.results57, go_sem, z0, z1, z2, z3, z4, z5]) rfl ⟨by rw [D.out]; rfl, bel2⟩
      · obtain ⟨b, off, rfl, hb, hcell⟩ := Rd.at_ hr1 (k := 2) (by simp; omega)
        simp only [List.getElem_map, B] at hcell
        have hgd : l.getD 2 0 = l[2] := by rw [List.getD_eq_getElem?_getD, List.getElem?_eq_getElem (by omega)]; rfl
        have H := Lib.hid (show beg l = (decide (1 ≤ l[2].toNat) && decide (l[2].toNat ≤ 4)) by rw [HB.out, hgd, decide_eq_false h2, Bool.false_or])
        clear hgd
        have h2' : 2 < l.length := by omega
        by_cases h3 : 1 ≤ l[2].toNat
        · by_cases h4 : l[2].toNat ≤ 4
          · have hbt : beg l = true := by rw [H.out, decide_eq_true h3, decide_eq_true h4]; rfl
            have htake := Lib.hid (take2_of_beg Hall.out (by omega))
            by_cases h39 : l.length < 39
            · have D := Lib.hid (show dec l = (zeroRec, 0, 11) by rw [dec, if_neg (by simp [hbt]), if_pos h39])
              clear hbt
              obtain ⟨z0, z1, z2, z3, z4, z5⟩ := cells6 blk
              obtain ⟨f0, f1, f2, f3, f4, f5⟩ := free6 blk
              go_wp2
              have blk1 := blk
              have bel1 := bel
              obtain ⟨w2, hw2, blk2, bel2, _⟩ := stored6 blk1 bel1 (Nat.le_refl _) (.int .i64 0) (.int .u32 0) (.int .u64 0) (.int .u64 0) (.int .u64 0) (.string ⟨#[]⟩)
              rw [← hw2]
              clear hw2 z0 z1 z2 z3 z4 z5 f0 f1 f2 f3 f4 f5
              obtain ⟨z0, z1, z2, z3, z4, z5⟩ := cells6 blk2
              exact bodyPost_ret (v := .tuple #[.agg #[.int .i64 0, .int .u32 0, .int .u64 0, .int .u64 0, .int .u64 0, .string ⟨#[]⟩], .int .i64 0, .int .i64 11]) (by simp [results, Try.results57, go_sem, z0, z1, z2, z3, z4, z5]) rfl ⟨by rw [D.out]; rfl, bel2⟩
            · have DA := Lib.hid (show dec l = _ by rw [dec, if_neg (by simp [hbt]), if_neg h39])
              clear hbt
              have p15 : (15 : Int) ≤ (c : Int) := by omega
              have p7 : (7 : Int) ≤ (c : Int) := by omega
              have p23 : (23 : Int) ≤ (c : Int) := by omega
              have p31 : (31 : Int) ≤ (c : Int) := by omega
              have p35 : (35 : Int) ≤ (c : Int) := by omega
              have p39 : (39 : Int) ≤ (c : Int) := by omega
              have p2 : (2 : Int) < (l.length : Int) := by omega
              have n3 : c ≠ 3 := by omega
              have n7 : c ≠ 7 := by omega
              have n15 : c ≠ 15 := by omega
              have n23 : c ≠ 23 := by omega
              have n31 : c ≠ 31 := by omega
              have n35 : c ≠ 35 := by omega
              have R1 := Lib.hid hr1
              clear hr1
              have hwk : IntKind.i64.wrap (l[2].toNat : Int) = (l[2].toNat : Int) := by have := l[2].toNat_lt; rw [IntKind.wrap_i64]; omega
              have hNlt := get_part_lt l 31 4
              obtain ⟨N, hN⟩ : ∃ N, get ((l.drop 31).take 4) = N := ⟨_, rfl⟩
              have HN := Lib.hid (show dsz l = N from hN)
              rw [hN] at hNlt
              go_wp2_with fail
              refine (refGetN _ _ 4 _ wr w.heap.size (R1.out.part 31 4) (part_len _ _ _ (by omega)) (by omega)).mono ?_
              rintro e w' ⟨rfl, rfl⟩
              rw [hN]
              clear hN
              by_cases hbig : 1000 < N
              · have D := Lib.hid (show dec l = (zeroRec, 0, 4) by rw [DA.out, if_pos (Or.inl (by rw [HN.out]; exact hbig))])
                have hbig' : (1000 : Int) < (N : Int) := by omega
                obtain ⟨z0, z1, z2, z3, z4, z5⟩ := cells6 blk
                obtain ⟨f0, f1, f2, f3, f4, f5⟩ := free6 blk
                go_wp2
                have blk1 := blk
                have bel1 := bel
                obtain ⟨w2, hw2, blk2, bel2, _⟩ := stored6 blk1 bel1 (Nat.le_refl _) (.int .i64 0) (.int .u32 0) (.int .u64 0) (.int .u64 0) (.int .u64 0) (.string ⟨#[]⟩)
                rw [← hw2]
                clear hw2 z0 z1 z2 z3 z4 z5 f0 f1 f2 f3 f4 f5
                obtain ⟨z0, z1, z2, z3, z4, z5⟩ := cells6 blk2
                exact bodyPost_ret (v := .tuple #[.agg #[.int .i64 0, .int .u32 0, .int .u64 0, .int .u64 0, .int .u64 0, .string ⟨#[]⟩], .int .i64 0, .int .i64 4]) (by simp [results, Try.results57, go_sem, z0, z1, z2, z3, z4, z5]) rfl ⟨by rw [D.out]; rfl, bel2⟩
              · have hN1 : (N : Int) ≤ 1000 := by omega
                have hzr := blk.lt
                have hbr : b < wr.heap.size := by omega
                go_wp2_with fail
                refine any_begin (fun w' => w'.cell? ⟨b, off + 2, none⟩ = some (.int .u8 (l[2].toNat : Int)) ∧ Below wr.heap.size wr w') (by kernel_rfl) ⟨hcell, (Below.refl _ _).drew⟩ (fun hS0 => ?_)
                refine any_take 0 (v := ?_) rfl rfl (by kernel_rfl) (by kernel_rfl) (by kernel_rfl) (fun _ _ _ h => h) hS0 ?_ ?_
                rotate_left
                · (intro w' hSw; (try dsimp only at hSw); go_simp; first | done | with_reducible rfl)
                try simp only [Act.put, List.setIfInBounds_toArray, List.set_cons_zero, List.set_cons_succ]
                refine any_take 1 (v := ?_) rfl rfl (by kernel_rfl) (by kernel_rfl) (by kernel_rfl) (fun _ _ _ h => h) hS0 ?_ ?_
                rotate_left
                · (intro w' hSw; (try dsimp only at hSw); go_simp; first | done | with_reducible rfl)
                try simp only [Act.put, List.setIfInBounds_toArray, List.set_cons_zero, List.set_cons_succ]
                refine any_take 2 (v := ?_) rfl rfl (by kernel_rfl) (by kernel_rfl) (by kernel_rfl) (fun _ _ _ h => h) hS0 ?_ ?_
                rotate_left
                · (intro w' hSw; (try dsimp only at hSw); go_simp; first | done | with_reducible rfl)
                try simp only [Act.put, List.setIfInBounds_toArray, List.set_cons_zero, List.set_cons_succ]
                refine any_take 3 (v := ?_) rfl rfl (by kernel_rfl) (by kernel_rfl) (by kernel_rfl) (fun _ _ _ h => h) hS0 ?_ ?_
                rotate_left
                · (intro w' hSw; (try dsimp only at hSw); go_simp; first | done | with_reducible rfl)
                try simp only [Act.put, List.setIfInBounds_toArray, List.set_cons_zero, List.set_cons_succ]
                refine any_take 4 (v := ?_) rfl rfl (by kernel_rfl) (by kernel_rfl) (by kernel_rfl) (fun _ _ _ h => h) hS0 ?_ ?_
                rotate_left
                · (intro w' hSw; (try dsimp only at hSw); go_simp; first | done | with_reducible rfl)
                try simp only [Act.put, List.setIfInBounds_toArray, List.set_cons_zero, List.set_cons_succ]
                refine any_take 5 (v := ?_) rfl rfl (by kernel_rfl) (by kernel_rfl) (by kernel_rfl) (fun _ _ _ h => h) hS0 ?_ ?_
                rotate_left
                · (intro w' hSw; (try dsimp only at hSw); go_simp; first | done | with_reducible rfl)
                try simp only [Act.put, List.setIfInBounds_toArray, List.set_cons_zero, List.set_cons_succ]
                refine any_take 7 (v := ?_) rfl rfl (by kernel_rfl) (by kernel_rfl) (by kernel_rfl) (fun _ _ _ h => h) hS0 ?_ ?_
                rotate_left
                · (intro w' hSw; (try dsimp only at hSw); go_simp; first | done | with_reducible rfl)
                try simp only [Act.put, List.setIfInBounds_toArray, List.set_cons_zero, List.set_cons_succ]
                refine any_take 8 (v := ?_) rfl rfl (by kernel_rfl) (by kernel_rfl) (by kernel_rfl) (fun _ _ _ h => h) hS0 ?_ ?_
                rotate_left
                · (intro w' hSw; (try dsimp only at hSw); go_simp; first | done | with_reducible rfl)
                try simp only [Act.put, List.setIfInBounds_toArray, List.set_cons_zero, List.set_cons_succ]
                refine any_take 10 (v := ?_) rfl rfl (by kernel_rfl) (by kernel_rfl) (by kernel_rfl) (fun _ _ _ h => h) hS0 ?_ ?_
                rotate_left
                · (intro w' hSw; (try dsimp only at hSw); go_simp; first | done | with_reducible rfl)
                try simp only [Act.put, List.setIfInBounds_toArray, List.set_cons_zero, List.set_cons_succ]
                refine any_take 11 (v := ?_) rfl rfl (by kernel_rfl) (by kernel_rfl) (by kernel_rfl) (fun _ _ _ h => h) hS0 ?_ ?_
                rotate_left
                · (intro w' hSw; (try dsimp only at hSw); go_simp; first | done | with_reducible rfl)
                try simp only [Act.put, List.setIfInBounds_toArray, List.set_cons_zero, List.set_cons_succ]
                refine any_call 6 (v := ?_) (f := ?_) (args := ?_) rfl rfl (by kernel_rfl) (by kernel_rfl) (by kernel_rfl) (fun _ _ _ h => h) hS0 ?_ ?_ ?_
                rotate_left 3
                · (intro w' hSw; (try dsimp only at hSw); go_simp; first | done | (constructor <;> with_reducible rfl) | with_reducible rfl)
                · (intro w' hw; exact refGetN _ _ 8 _ w' w.heap.size ((R1.out.below (hw.2.mono (by omega))).part 7 8) (part_len _ _ _ (by omega)) (by omega))
                try simp only [Act.put, List.setIfInBounds_toArray, List.set_cons_zero, List.set_cons_succ]
                refine any_call 9 (v := ?_) (f := ?_) (args := ?_) rfl rfl (by kernel_rfl) (by kernel_rfl) (by kernel_rfl) (fun _ _ _ h => h) hS0 ?_ ?_ ?_
                rotate_left 3
                · (intro w' hSw; (try dsimp only at hSw); go_simp; first | done | (constructor <;> with_reducible rfl) | with_reducible rfl)
                · (intro w' hw; exact refGetN _ _ 8 _ w' w.heap.size ((R1.out.below (hw.2.mono (by omega))).part 15 8) (part_len _ _ _ (by omega)) (by omega))
                try simp only [Act.put, List.setIfInBounds_toArray, List.set_cons_zero, List.set_cons_succ]
                refine any_call 12 (v := ?_) (f := ?_) (args := ?_) rfl rfl (by kernel_rfl) (by kernel_rfl) (by kernel_rfl) (fun _ _ _ h => h) hS0 ?_ ?_ ?_
                rotate_left 3
                · (intro w' hSw; (try dsimp only at hSw); go_simp; first | done | (constructor <;> with_reducible rfl) | with_reducible rfl)
                · (intro w' hw; exact refGetN _ _ 8 _ w' w.heap.size ((R1.out.below (hw.2.mono (by omega))).part 23 8) (part_len _ _ _ (by omega)) (by omega))
                try simp only [Act.put, List.setIfInBounds_toArray, List.set_cons_zero, List.set_cons_succ]
                refine any_take 13 (v := ?_) rfl rfl (by kernel_rfl) (by kernel_rfl) (by kernel_rfl) (fun _ _ _ h => h) hS0 ?_ ?_
                rotate_left
                · (intro w' hSw; (try dsimp only at hSw); go_simp; first | done | with_reducible rfl)
                try simp only [Act.put, List.setIfInBounds_toArray, List.set_cons_zero, List.set_cons_succ]
                refine any_one 14 (by kernel_rfl) rfl rfl (fun K1 hK1 => ?_)
                go_simp
                have blk2 : Blk (wr.alloc (.cells #[.int .i64 0, .int .u32 0, .int .u64 0, .int .u64 0, .int .u64 0, .string ⟨#[]⟩] 35)).drew wr.heap.size 35 #[.int .i64 0, .int .u32 0, .int .u64 0, .int .u64 0, .int .u64 0, .string ⟨#[]⟩] := Blk.new wr _ _
                have bel2 : Below wr.heap.size wr (wr.alloc (.cells #[.int .i64 0, .int .u32 0, .int .u64 0, .int .u64 0, .int .u64 0, .string ⟨#[]⟩] 35)).drew := ((Below.refl _ wr).alloc (Nat.le_refl _) _).drew
                generalize (wr.alloc (.cells #[.int .i64 0, .int .u32 0, .int .u64 0, .int .u64 0, .int .u64 0, .string ⟨#[]⟩] 35)).drew = w2 at *
                have c2 := (bel2.cell (p := ⟨b, off + 2, none⟩) hbr).trans hcell
                refine hK1 _ _ ⟨c2, bel2⟩ (fun hS1 => ?_)
                clear hK1 K1
                try simp only [Act.put, List.setIfInBounds_toArray, List.set_cons_zero, List.set_cons_succ]
                refine any_one 15 (by kernel_rfl) rfl rfl (fun K2 hK2 => ?_)
                obtain ⟨z0, z1, z2, z3, z4, z5⟩ := cells6 blk2
                obtain ⟨f0, f1, f2, f3, f4, f5⟩ := free6 blk2
                go_simp
                obtain ⟨w3, hw3, blk3, bel3, _⟩ := stored6 blk2 bel2 (Nat.le_refl _) (.int .i64 (l[2].toNat : Int)) (.int .u32 0) (.int .u64 (get ((l.drop 7).take 8) : Int)) (.int .u64 (get ((l.drop 15).take 8) : Int)) (.int .u64 (get ((l.drop 23).take 8) : Int)) (.string ⟨#[]⟩)
                rw [← hw3]
                have c3 := (bel3.cell (p := ⟨b, off + 2, none⟩) hbr).trans hcell
                refine hK2 _ _ ⟨c3, bel3⟩ (fun hS2 => ?_)
                clear hK2 K2
                try simp only [Act.put, List.setIfInBounds_toArray, List.set_cons_zero, List.set_cons_succ]
                refine any_done (by kernel_rfl) (NoPanic.normal ?_)
                have hz1 : wr.heap.size < w3.heap.size := blk3.lt
                have res3 := Blk.below blk bel3 hzr
                have b3 : Below w.heap.size w w3 := bel.trans (bel3.mono (by omega))
                clear hS0 hS1 hS2 hw3 bel2 blk2 z0 z1 z2 z3 z4 z5 f0 f1 f2 f3 f4 f5 c2 c3 hcell blk bel
                obtain ⟨q0, q1, q2, q3, q4, q5⟩ := cells6 blk3
                have HC0 : ({ headRec l with tenant := 0 } : Rec).cells = #[.int .i64 (l[2].toNat : Int), .int .u32 0, .int .u64 (get ((l.drop 7).take 8) : Int), .int .u64 (get ((l.drop 15).take 8) : Int), .int .u64 (get ((l.drop 23).take 8) : Int), .string ⟨#[]⟩] := by
                  have := headRec_cells l (by omega)
                  simp only [Rec.cells] at this ⊢
                  simp at this ⊢
                  simp [this]
                have MA := refMay_any { headRec l with tenant := 0 } w3 (by simp [headRec, maxLen])
                rw [HC0] at MA
                have hmm : ({ headRec l with tenant := 0 } : Rec).may = (headRec l).may := rfl
                rw [hmm] at MA
                have MA' := Lib.hid MA
                clear MA HC0 hmm
                go_wp2_with fail
                refine MA'.out.mono ?_
                rintro e w4 ⟨rfl, hb4⟩
                have lt3 := res3.lt
                have res4 := res3.below hb4 lt3
                have blk4 := blk3.below hb4 hz1
                have b4 := b3.trans (hb4.mono b3.size)
                have R4 := Lib.hid (R0.out.below b4)
                have hz4 : wr.heap.size < w4.heap.size := blk4.lt
                clear q0 q1 q2 q3 q4 q5 MA' b3 bel3
                by_cases hm : (headRec l).may = false
                · have D := Lib.hid (show dec l = (zeroRec, 0, 4) by rw [DA.out, if_pos (Or.inr hm)])
                  rw [hm]
                  clear hm
                  obtain ⟨z0, z1, z2, z3, z4, z5⟩ := cells6 res4
                  obtain ⟨f0, f1, f2, f3, f4, f5⟩ := free6 res4
                  go_wp2
                  have blk1 := res4
                  have bel1 := b4
                  obtain ⟨w2, hw2, blk2, bel2, _⟩ := stored6 blk1 bel1 (Nat.le_refl _) (.int .i64 0) (.int .u32 0) (.int .u64 0) (.int .u64 0) (.int .u64 0) (.string ⟨#[]⟩)
                  rw [← hw2]
                  clear hw2 z0 z1 z2 z3 z4 z5 f0 f1 f2 f3 f4 f5
                  obtain ⟨z0, z1, z2, z3, z4, z5⟩ := cells6 blk2
                  exact bodyPost_ret (v := .tuple #[.agg #[.int .i64 0, .int .u32 0, .int .u64 0, .int .u64 0, .int .u64 0, .string ⟨#[]⟩], .int .i64 0, .int .i64 4]) (by simp [results, Try.results57, go_sem, z0, z1, z2, z3, z4, z5]) rfl ⟨by rw [D.out]; rfl, bel2⟩
                · have hm : (headRec l).may = true := by simpa using hm
                  have DB := Lib.hid (show dec l = _ by rw [DA.out, if_neg (by rw [HN.out, hm]; simp; omega)])
                  rw [hm]
                  have HM := Lib.hid hm
                  clear hm
                  by_cases hmore : l.length - 39 < N
                  · have D := Lib.hid (show dec l = (zeroRec, 0, 11) by rw [DB.out, if_pos (by rw [HN.out]; exact hmore)])
                    have hm' : (l.length : Int) - 39 < (N : Int) := by omega
                    obtain ⟨z0, z1, z2, z3, z4, z5⟩ := cells6 res4
                    obtain ⟨f0, f1, f2, f3, f4, f5⟩ := free6 res4
                    go_wp2
                    have blk1 := res4
                    have bel1 := b4
                    obtain ⟨w2, hw2, blk2, bel2, _⟩ := stored6 blk1 bel1 (Nat.le_refl _) (.int .i64 0) (.int .u32 0) (.int .u64 0) (.int .u64 0) (.int .u64 0) (.string ⟨#[]⟩)
                    rw [← hw2]
                    clear hw2 z0 z1 z2 z3 z4 z5 f0 f1 f2 f3 f4 f5
                    obtain ⟨z0, z1, z2, z3, z4, z5⟩ := cells6 blk2
                    exact bodyPost_ret (v := .tuple #[.agg #[.int .i64 0, .int .u32 0, .int .u64 0, .int .u64 0, .int .u64 0, .string ⟨#[]⟩], .int .i64 0, .int .i64 11]) (by simp [results, Try.results57, go_sem, z0, z1, z2, z3, z4, z5]) rfl ⟨by rw [D.out]; rfl, bel2⟩
                  · have DC := Lib.hid (show dec l = _ by rw [DB.out, if_neg (by rw [HN.out]; exact hmore)])
                    have hm' : (N : Int) ≤ (l.length : Int) - 39 := by omega
                    have hcell4 := (R4.out.cellAt 2 h2').1
                    have hb4' : b < w4.heap.size := by omega
                    have hw4 : IntKind.u32.wrap (get ((l.drop 3).take 4) : Int) = (get ((l.drop 3).take 4) : Int) := wrapU _ (get_part_lt l 3 4)
                    have hwN : IntKind.i64.wrap (N : Int) = (N : Int) := by rw [IntKind.wrap_i64]; omega
                    have hwS : IntKind.i64.wrap (39 + (N : Int)) = 39 + (N : Int) := by rw [IntKind.wrap_i64]; omega
                    have hs0 : (0 : Int) ≤ 39 + (N : Int) := by omega
                    have hs1 : (39 : Int) ≤ 39 + (N : Int) := by omega
                    have hs2 : (39 : Int) + (N : Int) ≤ (c : Int) := by omega
                    have hs3 : (39 + (N : Int)).toNat = 39 + N := by omega
                    have hlen8 := Lib.hid (part_len l 39 N (by omega))
                    go_wp2_with fail
                    refine any_begin (fun w' => w'.cell? ⟨b, off + 2, none⟩ = some (.int .u8 (l[2].toNat : Int)) ∧ Below wr.heap.size w4 w') (by kernel_rfl) ⟨hcell4, (Below.refl _ _).drew⟩ (fun hS0 => ?_)
                    refine any_take 0 (v := ?_) rfl rfl (by kernel_rfl) (by kernel_rfl) (by kernel_rfl) (fun _ _ _ h => h) hS0 ?_ ?_
                    rotate_left
                    · (intro w' hSw; (try dsimp only at hSw); go_simp; first | done | with_reducible rfl)
                    try simp only [Act.put, List.setIfInBounds_toArray, List.set_cons_zero, List.set_cons_succ]
                    refine any_take 1 (v := ?_) rfl rfl (by kernel_rfl) (by kernel_rfl) (by kernel_rfl) (fun _ _ _ h => h) hS0 ?_ ?_
                    rotate_left
                    · (intro w' hSw; (try dsimp only at hSw); go_simp; first | done | with_reducible rfl)
                    try simp only [Act.put, List.setIfInBounds_toArray, List.set_cons_zero, List.set_cons_succ]
                    refine any_take 2 (v := ?_) rfl rfl (by kernel_rfl) (by kernel_rfl) (by kernel_rfl) (fun _ _ _ h => h) hS0 ?_ ?_
                    rotate_left
                    · (intro w' hSw; (try dsimp only at hSw); go_simp; first | done | with_reducible rfl)
                    try simp only [Act.put, List.setIfInBounds_toArray, List.set_cons_zero, List.set_cons_succ]
                    refine any_take 3 (v := ?_) rfl rfl (by kernel_rfl) (by kernel_rfl) (by kernel_rfl) (fun _ _ _ h => h) hS0 ?_ ?_
                    rotate_left
                    · (intro w' hSw; (try dsimp only at hSw); go_simp; first | done | with_reducible rfl)
                    try simp only [Act.put, List.setIfInBounds_toArray, List.set_cons_zero, List.set_cons_succ]
                    refine any_take 4 (v := ?_) rfl rfl (by kernel_rfl) (by kernel_rfl) (by kernel_rfl) (fun _ _ _ h => h) hS0 ?_ ?_
                    rotate_left
                    · (intro w' hSw; (try dsimp only at hSw); go_simp; first | done | with_reducible rfl)
                    try simp only [Act.put, List.setIfInBounds_toArray, List.set_cons_zero, List.set_cons_succ]
                    refine any_take 5 (v := ?_) rfl rfl (by kernel_rfl) (by kernel_rfl) (by kernel_rfl) (fun _ _ _ h => h) hS0 ?_ ?_
                    rotate_left
                    · (intro w' hSw; (try dsimp only at hSw); go_simp; first | done | with_reducible rfl)
                    try simp only [Act.put, List.setIfInBounds_toArray, List.set_cons_zero, List.set_cons_succ]
                    refine any_take 8 (v := ?_) rfl rfl (by kernel_rfl) (by kernel_rfl) (by kernel_rfl) (fun _ _ _ h => h) hS0 ?_ ?_
                    rotate_left
                    · (intro w' hSw; (try dsimp only at hSw); go_simp; first | done | with_reducible rfl)
                    try simp only [Act.put, List.setIfInBounds_toArray, List.set_cons_zero, List.set_cons_succ]
                    refine any_take 9 (v := ?_) rfl rfl (by kernel_rfl) (by kernel_rfl) (by kernel_rfl) (fun _ _ _ h => h) hS0 ?_ ?_
                    rotate_left
                    · (intro w' hSw; (try dsimp only at hSw); go_simp; first | done | with_reducible rfl)
                    try simp only [Act.put, List.setIfInBounds_toArray, List.set_cons_zero, List.set_cons_succ]
                    refine any_take 11 (v := ?_) rfl rfl (by kernel_rfl) (by kernel_rfl) (by kernel_rfl) (fun _ _ _ h => h) hS0 ?_ ?_
                    rotate_left
                    · (intro w' hSw; (try dsimp only at hSw); go_simp; first | done | with_reducible rfl)
                    try simp only [Act.put, List.setIfInBounds_toArray, List.set_cons_zero, List.set_cons_succ]
                    refine any_take 12 (v := ?_) rfl rfl (by kernel_rfl) (by kernel_rfl) (by kernel_rfl) (fun _ _ _ h => h) hS0 ?_ ?_
                    rotate_left
                    · (intro w' hSw; (try dsimp only at hSw); go_simp; first | done | with_reducible rfl)
                    try simp only [Act.put, List.setIfInBounds_toArray, List.set_cons_zero, List.set_cons_succ]
                    refine any_take 14 (v := ?_) rfl rfl (by kernel_rfl) (by kernel_rfl) (by kernel_rfl) (fun _ _ _ h => h) hS0 ?_ ?_
                    rotate_left
                    · (intro w' hSw; (try dsimp only at hSw); go_simp; first | done | with_reducible rfl)
                    try simp only [Act.put, List.setIfInBounds_toArray, List.set_cons_zero, List.set_cons_succ]
                    refine any_take 15 (v := ?_) rfl rfl (by kernel_rfl) (by kernel_rfl) (by kernel_rfl) (fun _ _ _ h => h) hS0 ?_ ?_
                    rotate_left
                    · (intro w' hSw; (try dsimp only at hSw); go_simp; first | done | with_reducible rfl)
                    try simp only [Act.put, List.setIfInBounds_toArray, List.set_cons_zero, List.set_cons_succ]
                    refine any_take 17 (v := ?_) rfl rfl (by kernel_rfl) (by kernel_rfl) (by kernel_rfl) (fun _ _ _ h => h) hS0 ?_ ?_
                    rotate_left
                    · (intro w' hSw; (try dsimp only at hSw); go_simp; first | done | with_reducible rfl)
                    try simp only [Act.put, List.setIfInBounds_toArray, List.set_cons_zero, List.set_cons_succ]
                    refine any_take 18 (v := ?_) rfl rfl (by kernel_rfl) (by kernel_rfl) (by kernel_rfl) (fun _ _ _ h => h) hS0 ?_ ?_
                    rotate_left
                    · (intro w' hSw; (try dsimp only at hSw); go_simp; first | done | with_reducible rfl)
                    try simp only [Act.put, List.setIfInBounds_toArray, List.set_cons_zero, List.set_cons_succ]
                    refine any_take 19 (v := ?_) rfl rfl (by kernel_rfl) (by kernel_rfl) (by kernel_rfl) (fun _ _ _ h => h) hS0 ?_ ?_
                    rotate_left
                    · (intro w' hSw; (try dsimp only at hSw); go_simp; first | done | with_reducible rfl)
                    try simp only [Act.put, List.setIfInBounds_toArray, List.set_cons_zero, List.set_cons_succ]
                    refine any_take 20 (v := ?_) rfl rfl (by kernel_rfl) (by kernel_rfl) (by kernel_rfl) (fun _ _ _ h => h) hS0 ?_ ?_
                    rotate_left
                    · (intro w' hSw; (try dsimp only at hSw); go_simp; first | done | with_reducible rfl)
                    try simp only [Act.put, List.setIfInBounds_toArray, List.set_cons_zero, List.set_cons_succ]
                    refine any_take 21 (v := ?_) rfl rfl (by kernel_rfl) (by kernel_rfl) (by kernel_rfl) (fun _ _ _ h => h) hS0 ?_ ?_
                    rotate_left
                    · (intro w' hSw; (try dsimp only at hSw); go_simp; first | done | with_reducible rfl)
                    try simp only [Act.put, List.setIfInBounds_toArray, List.set_cons_zero, List.set_cons_succ]
                    refine any_call 6 (v := ?_) (f := ?_) (args := ?_) rfl rfl (by kernel_rfl) (by kernel_rfl) (by kernel_rfl) (fun _ _ _ h => h) hS0 ?_ ?_ ?_
                    rotate_left 3
                    · (intro w' hSw; (try dsimp only at hSw); go_simp; first | done | (constructor <;> with_reducible rfl) | with_reducible rfl)
                    · (intro w' hw; exact refGetN _ _ 4 _ w' w.heap.size ((R4.out.below (hw.2.mono (by omega))).part 3 4) (part_len _ _ _ (by omega)) (by omega))
                    try simp only [Act.put, List.setIfInBounds_toArray, List.set_cons_zero, List.set_cons_succ]
                    refine any_call 10 (v := ?_) (f := ?_) (args := ?_) rfl rfl (by kernel_rfl) (by kernel_rfl) (by kernel_rfl) (fun _ _ _ h => h) hS0 ?_ ?_ ?_
                    rotate_left 3
                    · (intro w' hSw; (try dsimp only at hSw); go_simp; first | done | (constructor <;> with_reducible rfl) | with_reducible rfl)
                    · (intro w' hw; exact refGetN _ _ 8 _ w' w.heap.size ((R4.out.below (hw.2.mono (by omega))).part 7 8) (part_len _ _ _ (by omega)) (by omega))
                    try simp only [Act.put, List.setIfInBounds_toArray, List.set_cons_zero, List.set_cons_succ]
                    refine any_call 13 (v := ?_) (f := ?_) (args := ?_) rfl rfl (by kernel_rfl) (by kernel_rfl) (by kernel_rfl) (fun _ _ _ h => h) hS0 ?_ ?_ ?_
                    rotate_left 3
                    · (intro w' hSw; (try dsimp only at hSw); go_simp; first | done | (constructor <;> with_reducible rfl) | with_reducible rfl)
                    · (intro w' hw; exact refGetN _ _ 8 _ w' w.heap.size ((R4.out.below (hw.2.mono (by omega))).part 15 8) (part_len _ _ _ (by omega)) (by omega))
                    try simp only [Act.put, List.setIfInBounds_toArray, List.set_cons_zero, List.set_cons_succ]
                    refine any_call 16 (v := ?_) (f := ?_) (args := ?_) rfl rfl (by kernel_rfl) (by kernel_rfl) (by kernel_rfl) (fun _ _ _ h => h) hS0 ?_ ?_ ?_
                    rotate_left 3
                    · (intro w' hSw; (try dsimp only at hSw); go_simp; first | done | (constructor <;> with_reducible rfl) | with_reducible rfl)
                    · (intro w' hw; exact refGetN _ _ 8 _ w' w.heap.size ((R4.out.below (hw.2.mono (by omega))).part 23 8) (part_len _ _ _ (by omega)) (by omega))
                    try simp only [Act.put, List.setIfInBounds_toArray, List.set_cons_zero, List.set_cons_succ]
                    refine any_take 7 (v := ?_) rfl rfl (by kernel_rfl) (by kernel_rfl) (by kernel_rfl) (fun _ _ _ h => h) hS0 ?_ ?_
                    rotate_left
                    · (intro w' hSw; (try dsimp only at hSw); go_simp; first | done | with_reducible rfl)
                    try simp only [Act.put, List.setIfInBounds_toArray, List.set_cons_zero, List.set_cons_succ]
                    refine any_take 22 (v := (.string ⟨((l.drop 39).take N).toArray⟩)) rfl rfl (by kernel_rfl) (by kernel_rfl) (by kernel_rfl) (fun _ _ _ h => h) hS0 (fun w' hw => ?_) ?_
                    · (have hrun := run_str_of w' w.heap.size (if c = 39 then some ⟨b, off, none⟩ else some ⟨b, off + 39, none⟩) (c - 39) N ((l.drop 39).take N) hlen8.out ((R4.out.below (hw.2.mono (by omega))).tail N hcc); clear hw; go_simp)
                    try simp only [Act.put, List.setIfInBounds_toArray, List.set_cons_zero, List.set_cons_succ]
                    refine any_take 23 (v := ?_) rfl rfl (by kernel_rfl) (by kernel_rfl) (by kernel_rfl) (fun _ _ _ h => h) hS0 ?_ ?_
                    rotate_left
                    · (intro w' hSw; (try dsimp only at hSw); go_simp; first | done | with_reducible rfl)
                    try simp only [Act.put, List.setIfInBounds_toArray, List.set_cons_zero, List.set_cons_succ]
                    have b4d : Below w.heap.size w w4.drew := b4.drew
                    have blk4d : Blk w4.drew wr.heap.size 35 _ := blk4
                    have res4d : Blk w4.drew w.heap.size 35 _ := res4
                    have bel44 : Below wr.heap.size w4 w4.drew := (Below.refl _ _).drew
                    clear b4 blk4 res4 hb4
                    generalize w4.drew = w4' at *
                    refine any_one 24 (by kernel_rfl) rfl rfl (fun K3 hK3 => ?_)
                    obtain ⟨z0, z1, z2, z3, z4, z5⟩ := cells6 blk4d
                    obtain ⟨f0, f1, f2, f3, f4, f5⟩ := free6 blk4d
                    go_simp
                    obtain ⟨w5, hw5, blk5, b5, bel5⟩ := stored6 blk4d b4d (Nat.le_of_lt hzr) (.int .i64 (l[2].toNat : Int)) (.int .u32 (get ((l.drop 3).take 4) : Int)) (.int .u64 (get ((l.drop 7).take 8) : Int)) (.int .u64 (get ((l.drop 15).take 8) : Int)) (.int .u64 (get ((l.drop 23).take 8) : Int)) (.string ⟨((l.drop 39).take N).toArray⟩)
                    rw [← hw5]
                    have bel45 := bel44.trans bel5
                    have c5 := (bel45.cell (p := ⟨b, off + 2, none⟩) hbr).trans hcell4
                    refine hK3 _ _ ⟨c5, bel45⟩ (fun hS3 => ?_)
                    clear hK3 K3
                    try simp only [Act.put, List.setIfInBounds_toArray, List.set_cons_zero, List.set_cons_succ]
                    refine any_done (by kernel_rfl) (NoPanic.normal ?_)
                    generalize (if c = 39 then some (⟨b, off, none⟩ : Addr) else some ⟨b, off + 39, none⟩) = A8 at *
                    have res5 := res4d.below bel5 hzr
                    have R5 := Lib.hid (R0.out.below b5)
                    have hz5 : wr.heap.size < w5.heap.size := blk5.lt
                    clear hS0 hS3 hw5 z0 z1 z2 z3 z4 z5 f0 f1 f2 f3 f4 f5 c5 hcell4 bel45 bel44 bel5 res4d blk4d b4d hw4 hwN hs1
                    have hsz : (⟨((l.drop 39).take N).toArray⟩ : ByteArray).size = N := by
                      show ((l.drop 39).take N).toArray.size = N
                      rw [List.size_toArray, hlen8.out]
                    have HF : ({ headRec l with body := ⟨((l.drop 39).take N).toArray⟩ } : Rec).cells = #[.int .i64 (l[2].toNat : Int), .int .u32 (get ((l.drop 3).take 4) : Int), .int .u64 (get ((l.drop 7).take 8) : Int), .int .u64 (get ((l.drop 15).take 8) : Int), .int .u64 (get ((l.drop 23).take 8) : Int), .string ⟨((l.drop 39).take N).toArray⟩] := by
                      have := headRec_cells l (by omega)
                      simp only [Rec.cells] at this ⊢
                      simp at this ⊢
                      simp [this]
                    have hfm : ({ headRec l with body := ⟨((l.drop 39).take N).toArray⟩ } : Rec).may = true := by
                      have hm := HM.out
                      simp only [Rec.may, decide_eq_true_eq] at hm ⊢
                      rw [hsz]
                      omega
                    have hok : ({ headRec l with body := ⟨((l.drop 39).take N).toArray⟩ } : Rec).Ok := by
                      have hm := HM.out
                      simp only [Rec.may, decide_eq_true_eq] at hm
                      exact ⟨by simp only []; omega, by simp only []; omega, get_part_lt l 3 4, by simp only []; omega, by simp only []; omega, by simp only []; omega⟩
                    have ED := enc_dec l N HN.out (by omega) htake.out HM.out (by omega)
                    have MA : ∀ W : World, Calls Try.prog 30 #[.agg #[.int .i64 (l[2].toNat : Int), .int .u32 (get ((l.drop 3).take 4) : Int), .int .u64 (get ((l.drop 7).take 8) : Int), .int .u64 (get ((l.drop 15).take 8) : Int), .int .u64 (get ((l.drop 23).take 8) : Int), .string ⟨((l.drop 39).take N).toArray⟩]] W fun e w' => e = .returned (.bool true) ∧ Below W.heap.size W w' := fun W => by
                      have h := refMay_any { headRec l with body := ⟨((l.drop 39).take N).toArray⟩ } W (by rw [hsz]; unfold maxLen; omega)
                      rwa [HF, hfm] at h
                    have EA : ∀ W : World, Calls Try.prog 28 #[.agg #[.int .i64 (l[2].toNat : Int), .int .u32 (get ((l.drop 3).take 4) : Int), .int .u64 (get ((l.drop 7).take 8) : Int), .int .u64 (get ((l.drop 15).take 8) : Int), .int .u64 (get ((l.drop 23).take 8) : Int), .string ⟨((l.drop 39).take N).toArray⟩]] W fun e w' => ∃ v, e = .returned v ∧ OwnB w' W.heap.size v (enc { headRec l with body := ⟨((l.drop 39).take N).toArray⟩ }) ∧ Below W.heap.size W w' := fun W => by
                      have h := refEncode_any { headRec l with body := ⟨((l.drop 39).take N).toArray⟩ } W hok (by rw [hsz]; unfold maxLen; omega)
                      rwa [HF] at h
                    have hel : (enc { headRec l with body := ⟨((l.drop 39).take N).toArray⟩ }).length = 39 + N := by rw [enc_len _ hfm, hsz]
                    have htl : (l.take (39 + N)).length = 39 + N := by simp; omega
                    have MA' := Lib.hid MA
                    have EA' := Lib.hid EA
                    have ED' := Lib.hid ED
                    have HEL := Lib.hid hel
                    have HTL := Lib.hid htl
                    have hDok := Lib.hid (fun h : crcSum (l.take 35 ++ (l.drop 39).take N) = BitVec.ofNat 32 (get ((l.drop 35).take 4)) => (show dec l = ({ headRec l with body := ⟨((l.drop 39).take N).toArray⟩ }, 39 + N, 0) by rw [DC.out, if_pos (by rw [HN.out]; exact h), HN.out]))
                    have hDno := Lib.hid (fun h : ¬ crcSum (l.take 35 ++ (l.drop 39).take N) = BitVec.ofNat 32 (get ((l.drop 35).take 4)) => (show dec l = (zeroRec, 0, 4) by rw [DC.out, if_neg (by rw [HN.out]; exact h)]))
                    have HF' := Lib.hid HF
                    clear MA EA ED hel htl hok hfm hsz HF
                    generalize hER : enc { headRec l with body := ⟨((l.drop 39).take N).toArray⟩ } = E at *
                    have hER' := Lib.hid hER
                    clear hER
                    have hwN : IntKind.i64.wrap (N : Int) = (N : Int) := by rw [IntKind.wrap_i64]; omega
                    obtain ⟨q0, q1, q2, q3, q4, q5⟩ := cells6 blk5
                    go_wp2_with fail
                    have kk : ∀ w', Below w5.heap.size w5 w' → (w'.cell? ⟨wr.heap.size, 0, none⟩ = some (.int .i64 (l[2].toNat : Int)) ∧ w'.cell? ⟨wr.heap.size, 1, none⟩ = some (.int .u32 (get ((l.drop 3).take 4) : Int)) ∧ w'.cell? ⟨wr.heap.size, 2, none⟩ = some (.int .u64 (get ((l.drop 7).take 8) : Int)) ∧ w'.cell? ⟨wr.heap.size, 3, none⟩ = some (.int .u64 (get ((l.drop 15).take 8) : Int)) ∧ w'.cell? ⟨wr.heap.size, 4, none⟩ = some (.int .u64 (get ((l.drop 23).take 8) : Int)) ∧ w'.cell? ⟨wr.heap.size, 5, none⟩ = some (.string ⟨((l.drop 39).take N).toArray⟩)) ∧ Below w5.heap.size w5 w' := fun w' h =>
                      ⟨⟨(h.cell (p := ⟨wr.heap.size, 0, none⟩) hz5).trans q0, (h.cell (p := ⟨wr.heap.size, 1, none⟩) hz5).trans q1, (h.cell (p := ⟨wr.heap.size, 2, none⟩) hz5).trans q2, (h.cell (p := ⟨wr.heap.size, 3, none⟩) hz5).trans q3, (h.cell (p := ⟨wr.heap.size, 4, none⟩) hz5).trans q4, (h.cell (p := ⟨wr.heap.size, 5, none⟩) hz5).trans q5⟩, h⟩
                    have Kk := Lib.hid kk
                    clear kk q0 q1 q2 q3 q4 q5
                    refine any_begin (fun w' => (w'.cell? ⟨wr.heap.size, 0, none⟩ = some (.int .i64 (l[2].toNat : Int)) ∧ w'.cell? ⟨wr.heap.size, 1, none⟩ = some (.int .u32 (get ((l.drop 3).take 4) : Int)) ∧ w'.cell? ⟨wr.heap.size, 2, none⟩ = some (.int .u64 (get ((l.drop 7).take 8) : Int)) ∧ w'.cell? ⟨wr.heap.size, 3, none⟩ = some (.int .u64 (get ((l.drop 15).take 8) : Int)) ∧ w'.cell? ⟨wr.heap.size, 4, none⟩ = some (.int .u64 (get ((l.drop 23).take 8) : Int)) ∧ w'.cell? ⟨wr.heap.size, 5, none⟩ = some (.string ⟨((l.drop 39).take N).toArray⟩)) ∧ Below w5.heap.size w5 w') (by kernel_rfl) (Kk.out _ (Below.refl _ _).drew) (fun hS0 => ?_)
                    refine any_take 0 (v := ?_) rfl rfl (by kernel_rfl) (by kernel_rfl) (by kernel_rfl) (fun _ _ _ h => h) hS0 ?_ ?_
                    rotate_left
                    · (intro w' hSw; (try dsimp only at hSw); go_simp; first | done | with_reducible rfl)
                    try simp only [Act.put, List.setIfInBounds_toArray, List.set_cons_zero, List.set_cons_succ]
                    refine any_one 1 (by kernel_rfl) rfl rfl (fun K4 hK4 => ?_)
                    go_simp
                    refine (MA'.out _).mono ?_
                    rintro e w6 ⟨rfl, hb6⟩
                    have b56 : Below w5.heap.size w5 w6 := (Below.refl _ w5).drew.trans hb6
                    refine hK4 _ _ (Kk.out _ b56) (fun hS4 => ?_)
                    clear hK4 K4
                    try simp only [Act.put, List.setIfInBounds_toArray, List.set_cons_zero, List.set_cons_succ]
                    refine any_take 2 (v := ?_) rfl rfl (by kernel_rfl) (by kernel_rfl) (by kernel_rfl) (fun _ _ _ h => h) hS4 ?_ ?_
                    rotate_left
                    · (intro w' hSw; (try dsimp only at hSw); go_simp; first | done | with_reducible rfl)
                    try simp only [Act.put, List.setIfInBounds_toArray, List.set_cons_zero, List.set_cons_succ]
                    refine any_take 3 (v := ?_) rfl rfl (by kernel_rfl) (by kernel_rfl) (by kernel_rfl) (fun _ _ _ h => h) hS4 ?_ ?_
                    rotate_left
                    · (intro w' hSw; (try dsimp only at hSw); go_simp; first | done | with_reducible rfl)
                    try simp only [Act.put, List.setIfInBounds_toArray, List.set_cons_zero, List.set_cons_succ]
                    refine any_take 4 (v := ?_) rfl rfl (by kernel_rfl) (by kernel_rfl) (by kernel_rfl) (fun _ _ _ h => h) hS4 ?_ ?_
                    rotate_left
                    · (intro w' hSw; (try dsimp only at hSw); go_simp; first | done | with_reducible rfl)
                    try simp only [Act.put, List.setIfInBounds_toArray, List.set_cons_zero, List.set_cons_succ]
                    refine any_take 7 (v := ?_) rfl rfl (by kernel_rfl) (by kernel_rfl) (by kernel_rfl) (fun _ _ _ h => h) hS4 ?_ ?_
                    rotate_left
                    · (intro w' hSw; (try dsimp only at hSw); go_simp; first | done | with_reducible rfl)
                    try simp only [Act.put, List.setIfInBounds_toArray, List.set_cons_zero, List.set_cons_succ]
                    refine any_take 8 (v := ?_) rfl rfl (by kernel_rfl) (by kernel_rfl) (by kernel_rfl) (fun _ _ _ h => h) hS4 ?_ ?_
                    rotate_left
                    · (intro w' hSw; (try dsimp only at hSw); go_simp; first | done | with_reducible rfl)
                    try simp only [Act.put, List.setIfInBounds_toArray, List.set_cons_zero, List.set_cons_succ]
                    refine any_take 9 (v := ?_) rfl rfl (by kernel_rfl) (by kernel_rfl) (by kernel_rfl) (fun _ _ _ h => h) hS4 ?_ ?_
                    rotate_left
                    · (intro w' hSw; (try dsimp only at hSw); go_simp; first | done | with_reducible rfl)
                    try simp only [Act.put, List.setIfInBounds_toArray, List.set_cons_zero, List.set_cons_succ]
                    refine any_take 10 (v := ?_) rfl rfl (by kernel_rfl) (by kernel_rfl) (by kernel_rfl) (fun _ _ _ h => h) hS4 ?_ ?_
                    rotate_left
                    · (intro w' hSw; (try dsimp only at hSw); go_simp; first | done | with_reducible rfl)
                    try simp only [Act.put, List.setIfInBounds_toArray, List.set_cons_zero, List.set_cons_succ]
                    refine any_take 11 (v := ?_) rfl rfl (by kernel_rfl) (by kernel_rfl) (by kernel_rfl) (fun _ _ _ h => h) hS4 ?_ ?_
                    rotate_left
                    · (intro w' hSw; (try dsimp only at hSw); go_simp; first | done | with_reducible rfl)
                    try simp only [Act.put, List.setIfInBounds_toArray, List.set_cons_zero, List.set_cons_succ]
                    refine any_take 12 (v := (.string ⟨(l.take (39 + N)).toArray⟩)) rfl rfl (by kernel_rfl) (by kernel_rfl) (by kernel_rfl) (fun _ _ _ h => h) hS4 (fun w' hw => ?_) ?_
                    · (have hrun := run_str_of w' w.heap.size (some ⟨b, off, none⟩) c (39 + N) (l.take (39 + N)) HTL.out ((R5.out.below (hw.2.mono (by omega))).take (39 + N)); clear hw; go_simp)
                    try simp only [Act.put, List.setIfInBounds_toArray, List.set_cons_zero, List.set_cons_succ]
                    refine any_one 5 (by kernel_rfl) rfl rfl (fun K5 hK5 => ?_)
                    go_simp
                    refine (EA'.out _).mono ?_
                    rintro e w7 ⟨v7, rfl, own7, hb7⟩
                    have b57 := b56.trans (hb7.mono b56.size)
                    obtain ⟨A7, c7, rfl, _, _, r7, _⟩ := own7.slice
                    rw [HEL.out]
                    refine hK5 _ _ (Kk.out _ b57) (fun hS5 => ?_)
                    clear hK5 K5
                    try simp only [Act.put, List.setIfInBounds_toArray, List.set_cons_zero, List.set_cons_succ]
                    refine any_one 6 (by kernel_rfl) rfl rfl (fun K6 hK6 => ?_)
                    have ks := run_str_of w7 w7.heap.size A7 c7 (39 + N) E HEL.out r7
                    go_simp
                    refine hK6 _ _ (Kk.out _ b57) (fun hS6 => ?_)
                    clear hK6 K6
                    try simp only [Act.put, List.setIfInBounds_toArray, List.set_cons_zero, List.set_cons_succ]
                    have res7 := res5.below b57 (by omega)
                    have blk7 := blk5.below b57 hz5
                    have b7 := b5.trans (b57.mono b5.size)
                    clear hS0 hS4 hS5 r7 own7 hb7 hb6 b56 Kk EA' MA' ks
                    by_cases heq : E = l.take (39 + N)
                    · have hne : (!((⟨E.toArray⟩ : ByteArray).toList == (⟨(l.take (39 + N)).toArray⟩ : ByteArray).toList)) = false := by rw [heq]; simp
                      have D := Lib.hid (hDok.out (ED'.out.1 heq))
                      have hq := Lib.hid heq
                      clear heq hne
                      refine any_take 13 (v := .bool false) rfl rfl (by kernel_rfl) (by kernel_rfl) (by kernel_rfl) (fun _ _ _ h => h) hS6 (fun w' hw => ?_) ?_
                      · (clear hw; go_simp; exact hq.out)
                      refine any_take 14 (v := ?_) rfl rfl (by kernel_rfl) (by kernel_rfl) (by kernel_rfl) (fun _ _ _ h => h) hS6 ?_ ?_
                      rotate_left
                      · (intro w' hSw; (try dsimp only at hSw); go_simp; first | done | with_reducible rfl)
                      try simp only [Act.put, List.setIfInBounds_toArray, List.set_cons_zero, List.set_cons_succ]
                      refine any_done (by kernel_rfl) (NoPanic.normal ?_)
                      obtain ⟨r0, r1, r2, r3, r4, r5⟩ := cells6 blk7
                      obtain ⟨z0, z1, z2, z3, z4, z5⟩ := cells6 res7
                      obtain ⟨f0, f1, f2, f3, f4, f5⟩ := free6 res7
                      go_wp2_with fail
                      obtain ⟨w8, hw8, blk8, bel8, _⟩ := stored6 res7 b7 (Nat.le_refl _) (.int .i64 (l[2].toNat : Int)) (.int .u32 (get ((l.drop 3).take 4) : Int)) (.int .u64 (get ((l.drop 7).take 8) : Int)) (.int .u64 (get ((l.drop 15).take 8) : Int)) (.int .u64 (get ((l.drop 23).take 8) : Int)) (.string ⟨((l.drop 39).take N).toArray⟩)
                      rw [← hw8]
                      clear hw8 z0 z1 z2 z3 z4 z5 f0 f1 f2 f3 f4 f5
                      obtain ⟨z0, z1, z2, z3, z4, z5⟩ := cells6 blk8
                      exact bodyPost_ret (v := .tuple #[.agg #[.int .i64 (l[2].toNat : Int), .int .u32 (get ((l.drop 3).take 4) : Int), .int .u64 (get ((l.drop 7).take 8) : Int), .int .u64 (get ((l.drop 15).take 8) : Int), .int .u64 (get ((l.drop 23).take 8) : Int), .string ⟨((l.drop 39).take N).toArray⟩], .int .i64 (39 + (N : Int)), .int .i64 0]) (by simp [results, Try.results57, go_sem, z0, z1, z2, z3, z4, z5]) rfl ⟨by rw [D.out]; unfold recRes; simp only [HF'.out]; rfl, bel8⟩
                    · have hne : ((⟨E.toArray⟩ : ByteArray).toList == (⟨(l.take (39 + N)).toArray⟩ : ByteArray).toList) = false := by
                        rw [toList_mk, toList_mk]
                        simpa using heq
                      have D := Lib.hid (hDno.out (fun h => heq (ED'.out.2 h)))
                      have hq := Lib.hid heq
                      clear heq hne
                      refine any_take 13 (v := .bool true) rfl rfl (by kernel_rfl) (by kernel_rfl) (by kernel_rfl) (fun _ _ _ h => h) hS6 (fun w' hw => ?_) ?_
                      · (clear hw; go_simp; exact hq.out)
                      refine any_take 14 (v := ?_) rfl rfl (by kernel_rfl) (by kernel_rfl) (by kernel_rfl) (fun _ _ _ h => h) hS6 ?_ ?_
                      rotate_left
                      · (intro w' hSw; (try dsimp only at hSw); go_simp; first | done | with_reducible rfl)
                      try simp only [Act.put, List.setIfInBounds_toArray, List.set_cons_zero, List.set_cons_succ]
                      refine any_done (by kernel_rfl) (NoPanic.normal ?_)
                      obtain ⟨z0, z1, z2, z3, z4, z5⟩ := cells6 res7
                      obtain ⟨f0, f1, f2, f3, f4, f5⟩ := free6 res7
                      go_wp2_with fail
                      have blk1 := res7
                      have bel1 := b7
                      obtain ⟨w2, hw2, blk2, bel2, _⟩ := stored6 blk1 bel1 (Nat.le_refl _) (.int .i64 0) (.int .u32 0) (.int .u64 0) (.int .u64 0) (.int .u64 0) (.string ⟨#[]⟩)
                      rw [← hw2]
                      clear hw2 z0 z1 z2 z3 z4 z5 f0 f1 f2 f3 f4 f5
                      obtain ⟨z0, z1, z2, z3, z4, z5⟩ := cells6 blk2
                      exact bodyPost_ret (v := .tuple #[.agg #[.int .i64 0, .int .u32 0, .int .u64 0, .int .u64 0, .int .u64 0, .string ⟨#[]⟩], .int .i64 0, .int .i64 4]) (by simp [results, Try.results57, go_sem, z0, z1, z2, z3, z4, z5]) rfl ⟨by rw [D.out]; rfl, bel2⟩
          · have D := Lib.hid (show dec l = (zeroRec, 0, 4) by rw [dec, if_pos (by rw [H.out, decide_eq_true h3, decide_eq_false h4]; rfl)])
            have h4' : (4 : Int) < (l[2].toNat : Int) := by omega
            obtain ⟨z0, z1, z2, z3, z4, z5⟩ := cells6 blk
            obtain ⟨f0, f1, f2, f3, f4, f5⟩ := free6 blk
            go_wp2
            have blk1 := blk
            have bel1 := bel
            obtain ⟨w2, hw2, blk2, bel2, _⟩ := stored6 blk1 bel1 (Nat.le_refl _) (.int .i64 0) (.int .u32 0) (.int .u64 0) (.int .u64 0) (.int .u64 0) (.string ⟨#[]⟩)
            rw [← hw2]
            clear hw2 z0 z1 z2 z3 z4 z5 f0 f1 f2 f3 f4 f5
            obtain ⟨z0, z1, z2, z3, z4, z5⟩ := cells6 blk2
            exact bodyPost_ret (v := .tuple #[.agg #[.int .i64 0, .int .u32 0, .int .u64 0, .int .u64 0, .int .u64 0, .string ⟨#[]⟩], .int .i64 0, .int .i64 4]) (by simp [results, Try.results57, go_sem, z0, z1, z2, z3, z4, z5]) rfl ⟨by rw [D.out]; rfl, bel2⟩
        · have D := Lib.hid (show dec l = (zeroRec, 0, 4) by rw [dec, if_pos (by rw [H.out, decide_eq_false h3]; rfl)])
          have h3' : (l[2].toNat : Int) < 1 := by omega
          obtain ⟨z0, z1, z2, z3, z4, z5⟩ := cells6 blk
          obtain ⟨f0, f1, f2, f3, f4, f5⟩ := free6 blk
          go_wp2
          have blk1 := blk
          have bel1 := bel
          obtain ⟨w2, hw2, blk2, bel2, _⟩ := stored6 blk1 bel1 (Nat.le_refl _) (.int .i64 0) (.int .u32 0) (.int .u64 0) (.int .u64 0) (.int .u64 0) (.string ⟨#[]⟩)
          rw [← hw2]
          clear hw2 z0 z1 z2 z3 z4 z5 f0 f1 f2 f3 f4 f5
          obtain ⟨z0, z1, z2, z3, z4, z5⟩ := cells6 blk2
          exact bodyPost_ret (v := .tuple #[.agg #[.int .i64 0, .int .u32 0, .int .u64 0, .int .u64 0, .int .u64 0, .string ⟨#[]⟩], .int .i64 0, .int .i64 4]) (by simp [results, Try.results57, go_sem, z0, z1, z2, z3, z4, z5]) rfl ⟨by rw [D.out]; rfl, bel2⟩
end Go.Proofs.Ytehhgfkbcjbciaa
