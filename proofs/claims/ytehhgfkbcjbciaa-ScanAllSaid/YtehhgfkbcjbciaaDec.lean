/- record.Decode. -/
import Derived.Test.YtehhgfkbcjbciaaBegins
import Derived.Test.YtehhgfkbcjbciaaStrs
import Derived.Test.YtehhgfkbcjbciaaPlan
import Derived.Deep.DeepCutAuto
namespace Go.Proofs.Ytehhgfkbcjbciaa
open Go.RowKit

def zeroRec : Rec := ⟨0, 0, 0, 0, 0, ByteArray.empty⟩

/-- what a head says -/
def headRec (l : List UInt8) : Rec := ⟨((l.getD 2 0).toNat : Int), get ((l.drop 3).take 4), get ((l.drop 7).take 8), get ((l.drop 15).take 8), get ((l.drop 23).take 8), ByteArray.empty⟩

/-- the body's length that a head says -/
def dsz (l : List UInt8) : Nat := get ((l.drop 31).take 4)

/-- what bytes begin with: the record, its length, the error -/
def dec (l : List UInt8) : Rec × Nat × Nat :=
  if beg l = false then (zeroRec, 0, 4) else if l.length < 39 then (zeroRec, 0, 11) else
  if 1000 < dsz l ∨ (headRec l).may = false then (zeroRec, 0, 4)
  else if l.length - 39 < dsz l then (zeroRec, 0, 11)
  else if crcSum (l.take 35 ++ (l.drop 39).take (dsz l)) = BitVec.ofNat 32 (get ((l.drop 35).take 4)) then ({ headRec l with body := ⟨((l.drop 39).take (dsz l)).toArray⟩ }, 39 + dsz l, 0) else (zeroRec, 0, 4)

/-- a result: a record, a number, an error -/
def recRes (x : Rec × Nat × Nat) : Value := .tuple #[.agg x.1.cells, .int .i64 (x.2.1 : Int), .int .i64 (x.2.2 : Int)]

theorem get_part_lt (l : List UInt8) (p k : Nat) : get ((l.drop p).take k) < 256 ^ k :=
  Nat.lt_of_lt_of_le (get_lt _) (Nat.pow_le_pow_right (by omega) (by simp; omega))

theorem headRec_cells (l : List UInt8) (h : 2 < l.length) : (headRec l).cells = #[.int .i64 (l[2].toNat : Int), .int .u32 (get ((l.drop 3).take 4) : Int), .int .u64 (get ((l.drop 7).take 8) : Int), .int .u64 (get ((l.drop 15).take 8) : Int), .int .u64 (get ((l.drop 23).take 8) : Int), .string ⟨#[]⟩] := by
  have : l.getD 2 0 = l[2] := by rw [List.getD_eq_getElem?_getD, List.getElem?_eq_getElem h]; rfl
  simp only [Rec.cells, headRec, this]
  rfl

set_option maxRecDepth 100000 in
set_option maxHeartbeats 2000000 in
theorem decode_any (A : Option Addr) (c : Nat) (l : List UInt8) (w : World) (hr : RdB w w.heap.size A l) (hc : l.length ≤ maxLen) (hcc : l.length ≤ c) :
    Calls Try.prog 31 #[.slice A l.length c] w fun e w' => e = .returned (recRes (dec l)) ∧ Below w.heap.size w w' := by
  have BG := Lib.hid (fun W D hr hD => begins_any A c l W D hr hD hc)
  have R0 := Lib.hid hr
  unfold maxLen at hc
  go_enter Try.func31, Try.ntmps31
  go_wp2_with fail
  refine (BG.out _ w.heap.size (R0.out.alloc (Nat.le_refl _) _) (by simp)).mono ?_
  rintro e w1 ⟨rfl, hb1⟩
  have blk1 : Blk w1 w.heap.size 35 #[.int .i64 0, .int .u32 0, .int .u64 0, .int .u64 0, .int .u64 0, .string ⟨#[]⟩] := Blk.below (Blk.new w _ _) hb1 (by simp)
  have bel1 : Below w.heap.size w w1 := ((Below.refl _ w).alloc (Nat.le_refl _) _).trans (hb1.mono (by simp))
  have r1 := R0.out.below bel1
  have lt1 := blk1.lt
  obtain ⟨z0, z1, z2, z3, z4, z5⟩ := cells6 blk1
  obtain ⟨f0, f1, f2, f3, f4, f5⟩ := free6 blk1
  clear hb1
  by_cases hbg : beg l = false
  · have D := Lib.hid (show dec l = (zeroRec, 0, 4) by rw [dec, if_pos hbg])
    rw [hbg]
    clear hbg
    go_wp2
    obtain ⟨w2, hw2, blk2, bel2, _⟩ := stored6 blk1 bel1 (Nat.le_refl _) (.int .i64 0) (.int .u32 0) (.int .u64 0) (.int .u64 0) (.int .u64 0) (.string ⟨#[]⟩)
    rw [← hw2]
    clear hw2 z0 z1 z2 z3 z4 z5 f0 f1 f2 f3 f4 f5
    obtain ⟨z0, z1, z2, z3, z4, z5⟩ := cells6 blk2
    exact bodyPost_ret (v := .tuple #[.agg #[.int .i64 0, .int .u32 0, .int .u64 0, .int .u64 0, .int .u64 0, .string ⟨#[]⟩], .int .i64 0, .int .i64 4]) (by simp [results, Try.results31, go_sem, z0, z1, z2, z3, z4, z5]) rfl ⟨by rw [D.out]; rfl, bel2⟩
  · have hbg : beg l = true := by simpa using hbg
    by_cases h39 : l.length < 39
    · have D := Lib.hid (show dec l = (zeroRec, 0, 11) by rw [dec, if_neg (by simp [hbg]), if_pos h39])
      rw [hbg]
      clear hbg
      go_wp2
      obtain ⟨w2, hw2, blk2, bel2, _⟩ := stored6 blk1 bel1 (Nat.le_refl _) (.int .i64 0) (.int .u32 0) (.int .u64 0) (.int .u64 0) (.int .u64 0) (.string ⟨#[]⟩)
      rw [← hw2]
      clear hw2 z0 z1 z2 z3 z4 z5 f0 f1 f2 f3 f4 f5
      obtain ⟨z0, z1, z2, z3, z4, z5⟩ := cells6 blk2
      exact bodyPost_ret (v := .tuple #[.agg #[.int .i64 0, .int .u32 0, .int .u64 0, .int .u64 0, .int .u64 0, .string ⟨#[]⟩], .int .i64 0, .int .i64 11]) (by simp [results, Try.results31, go_sem, z0, z1, z2, z3, z4, z5]) rfl ⟨by rw [D.out]; rfl, bel2⟩
    · have DA := Lib.hid (show dec l = _ by rw [dec, if_neg (by simp [hbg]), if_neg h39])
      rw [hbg]
      clear hbg
      obtain ⟨b, off, rfl, hb, hcell⟩ := Rd.at_ r1 (k := 2) (by simp; omega)
      simp only [List.getElem_map, B] at hcell
      have p7 : (7 : Int) ≤ (c : Int) := by omega
      have p15 : (15 : Int) ≤ (c : Int) := by omega
      have p23 : (23 : Int) ≤ (c : Int) := by omega
      have p31 : (31 : Int) ≤ (c : Int) := by omega
      have p35 : (35 : Int) ≤ (c : Int) := by omega
      have p39 : (39 : Int) ≤ (c : Int) := by omega
      have p2 : (2 : Int) < (l.length : Int) := by omega
      have n3 : c ≠ 3 := by omega
      have n7 : c ≠ 7 := by omega
      have n15 : c ≠ 15 := by omega
      have n23 : c ≠ 23 := by omega
      have n31 : c ≠ 31 := by omega
      have n35 : c ≠ 35 := by omega
      have R1 := Lib.hid r1
      have hwk : IntKind.i64.wrap (l[2].toNat : Int) = (l[2].toNat : Int) := by have := l[2].toNat_lt; rw [IntKind.wrap_i64]; omega
      have hw4 : IntKind.u32.wrap (get ((l.drop 3).take 4) : Int) = (get ((l.drop 3).take 4) : Int) := wrapU _ (get_part_lt l 3 4)
      clear r1
      go_wp2_with fail
      refine any_begin (fun w' => w'.cell? ⟨b, off + 2, none⟩ = some (.int .u8 (l[2].toNat : Int)) ∧ Below w1.heap.size w1 w') (by kernel_rfl) ⟨hcell, (Below.refl _ _).drew⟩ (fun hS0 => ?_)
      refine any_take 0 (v := ?_) rfl rfl (by kernel_rfl) (by kernel_rfl) (by kernel_rfl) (fun _ _ _ h => h) hS0 ?_ ?_
      rotate_left
      · (intro w' hSw; (try dsimp only at hSw); go_simp; first | done | with_reducible rfl)
      try simp only [Act.put, List.setIfInBounds_toArray, List.set_cons_zero, List.set_cons_succ]
      refine any_take 4 (v := ?_) rfl rfl (by kernel_rfl) (by kernel_rfl) (by kernel_rfl) (fun _ _ _ h => h) hS0 ?_ ?_
      rotate_left
      · (intro w' hSw; (try dsimp only at hSw); go_simp; first | done | with_reducible rfl)
      try simp only [Act.put, List.setIfInBounds_toArray, List.set_cons_zero, List.set_cons_succ]
      refine any_take 8 (v := ?_) rfl rfl (by kernel_rfl) (by kernel_rfl) (by kernel_rfl) (fun _ _ _ h => h) hS0 ?_ ?_
      rotate_left
      · (intro w' hSw; (try dsimp only at hSw); go_simp; first | done | with_reducible rfl)
      try simp only [Act.put, List.setIfInBounds_toArray, List.set_cons_zero, List.set_cons_succ]
      refine any_take 11 (v := ?_) rfl rfl (by kernel_rfl) (by kernel_rfl) (by kernel_rfl) (fun _ _ _ h => h) hS0 ?_ ?_
      rotate_left
      · (intro w' hSw; (try dsimp only at hSw); go_simp; first | done | with_reducible rfl)
      try simp only [Act.put, List.setIfInBounds_toArray, List.set_cons_zero, List.set_cons_succ]
      refine any_take 14 (v := ?_) rfl rfl (by kernel_rfl) (by kernel_rfl) (by kernel_rfl) (fun _ _ _ h => h) hS0 ?_ ?_
      rotate_left
      · (intro w' hSw; (try dsimp only at hSw); go_simp; first | done | with_reducible rfl)
      try simp only [Act.put, List.setIfInBounds_toArray, List.set_cons_zero, List.set_cons_succ]
      refine any_take 1 (v := ?_) rfl rfl (by kernel_rfl) (by kernel_rfl) (by kernel_rfl) (fun _ _ _ h => h) hS0 ?_ ?_
      rotate_left
      · (intro w' hSw; (try dsimp only at hSw); go_simp; first | done | with_reducible rfl)
      try simp only [Act.put, List.setIfInBounds_toArray, List.set_cons_zero, List.set_cons_succ]
      refine any_take 2 (v := ?_) rfl rfl (by kernel_rfl) (by kernel_rfl) (by kernel_rfl) (fun _ _ _ h => h) hS0 ?_ ?_
      rotate_left
      · (intro w' hSw; (try dsimp only at hSw); go_simp; first | done | with_reducible rfl)
      try simp only [Act.put, List.setIfInBounds_toArray, List.set_cons_zero, List.set_cons_succ]
      refine any_take 3 (v := ?_) rfl rfl (by kernel_rfl) (by kernel_rfl) (by kernel_rfl) (fun _ _ _ h => h) hS0 ?_ ?_
      rotate_left
      · (intro w' hSw; (try dsimp only at hSw); go_simp; first | done | with_reducible rfl)
      try simp only [Act.put, List.setIfInBounds_toArray, List.set_cons_zero, List.set_cons_succ]
      refine any_take 5 (v := ?_) rfl rfl (by kernel_rfl) (by kernel_rfl) (by kernel_rfl) (fun _ _ _ h => h) hS0 ?_ ?_
      rotate_left
      · (intro w' hSw; (try dsimp only at hSw); go_simp; first | done | with_reducible rfl)
      try simp only [Act.put, List.setIfInBounds_toArray, List.set_cons_zero, List.set_cons_succ]
      refine any_take 9 (v := ?_) rfl rfl (by kernel_rfl) (by kernel_rfl) (by kernel_rfl) (fun _ _ _ h => h) hS0 ?_ ?_
      rotate_left
      · (intro w' hSw; (try dsimp only at hSw); go_simp; first | done | with_reducible rfl)
      try simp only [Act.put, List.setIfInBounds_toArray, List.set_cons_zero, List.set_cons_succ]
      refine any_take 12 (v := ?_) rfl rfl (by kernel_rfl) (by kernel_rfl) (by kernel_rfl) (fun _ _ _ h => h) hS0 ?_ ?_
      rotate_left
      · (intro w' hSw; (try dsimp only at hSw); go_simp; first | done | with_reducible rfl)
      try simp only [Act.put, List.setIfInBounds_toArray, List.set_cons_zero, List.set_cons_succ]
      refine any_take 15 (v := ?_) rfl rfl (by kernel_rfl) (by kernel_rfl) (by kernel_rfl) (fun _ _ _ h => h) hS0 ?_ ?_
      rotate_left
      · (intro w' hSw; (try dsimp only at hSw); go_simp; first | done | with_reducible rfl)
      try simp only [Act.put, List.setIfInBounds_toArray, List.set_cons_zero, List.set_cons_succ]
      refine any_call 6 (v := ?_) (f := ?_) (args := ?_) rfl rfl (by kernel_rfl) (by kernel_rfl) (by kernel_rfl) (fun _ _ _ h => h) hS0 ?_ ?_ ?_
      rotate_left 3
      · (intro w' hSw; (try dsimp only at hSw); go_simp; first | done | (constructor <;> with_reducible rfl) | with_reducible rfl)
      · (intro w' hw; exact numGetN _ _ 4 _ w' w.heap.size ((R1.out.below (hw.2.mono (by omega))).part 3 4) (part_len _ _ _ (by omega)) (by omega))
      try simp only [Act.put, List.setIfInBounds_toArray, List.set_cons_zero, List.set_cons_succ]
      refine any_call 10 (v := ?_) (f := ?_) (args := ?_) rfl rfl (by kernel_rfl) (by kernel_rfl) (by kernel_rfl) (fun _ _ _ h => h) hS0 ?_ ?_ ?_
      rotate_left 3
      · (intro w' hSw; (try dsimp only at hSw); go_simp; first | done | (constructor <;> with_reducible rfl) | with_reducible rfl)
      · (intro w' hw; exact numGetN _ _ 8 _ w' w.heap.size ((R1.out.below (hw.2.mono (by omega))).part 7 8) (part_len _ _ _ (by omega)) (by omega))
      try simp only [Act.put, List.setIfInBounds_toArray, List.set_cons_zero, List.set_cons_succ]
      refine any_call 13 (v := ?_) (f := ?_) (args := ?_) rfl rfl (by kernel_rfl) (by kernel_rfl) (by kernel_rfl) (fun _ _ _ h => h) hS0 ?_ ?_ ?_
      rotate_left 3
      · (intro w' hSw; (try dsimp only at hSw); go_simp; first | done | (constructor <;> with_reducible rfl) | with_reducible rfl)
      · (intro w' hw; exact numGetN _ _ 8 _ w' w.heap.size ((R1.out.below (hw.2.mono (by omega))).part 15 8) (part_len _ _ _ (by omega)) (by omega))
      try simp only [Act.put, List.setIfInBounds_toArray, List.set_cons_zero, List.set_cons_succ]
      refine any_call 16 (v := ?_) (f := ?_) (args := ?_) rfl rfl (by kernel_rfl) (by kernel_rfl) (by kernel_rfl) (fun _ _ _ h => h) hS0 ?_ ?_ ?_
      rotate_left 3
      · (intro w' hSw; (try dsimp only at hSw); go_simp; first | done | (constructor <;> with_reducible rfl) | with_reducible rfl)
      · (intro w' hw; exact numGetN _ _ 8 _ w' w.heap.size ((R1.out.below (hw.2.mono (by omega))).part 23 8) (part_len _ _ _ (by omega)) (by omega))
      try simp only [Act.put, List.setIfInBounds_toArray, List.set_cons_zero, List.set_cons_succ]
      refine any_take 7 (v := ?_) rfl rfl (by kernel_rfl) (by kernel_rfl) (by kernel_rfl) (fun _ _ _ h => h) hS0 ?_ ?_
      rotate_left
      · (intro w' hSw; (try dsimp only at hSw); go_simp; first | done | with_reducible rfl)
      try simp only [Act.put, List.setIfInBounds_toArray, List.set_cons_zero, List.set_cons_succ]
      refine any_take 17 (v := ?_) rfl rfl (by kernel_rfl) (by kernel_rfl) (by kernel_rfl) (fun _ _ _ h => h) hS0 ?_ ?_
      rotate_left
      · (intro w' hSw; (try dsimp only at hSw); go_simp; first | done | with_reducible rfl)
      try simp only [Act.put, List.setIfInBounds_toArray, List.set_cons_zero, List.set_cons_succ]
      refine any_one 18 (by kernel_rfl) rfl rfl (fun K1 hK1 => ?_)
      go_simp
      have blk2 : Blk ((w1.alloc (.cells #[.int .i64 0, .int .u32 0, .int .u64 0, .int .u64 0, .int .u64 0, .string ⟨#[]⟩] 35)).drew) w1.heap.size 35 #[.int .i64 0, .int .u32 0, .int .u64 0, .int .u64 0, .int .u64 0, .string ⟨#[]⟩] := Blk.new w1 _ _
      have bel2 : Below w1.heap.size w1 ((w1.alloc (.cells #[.int .i64 0, .int .u32 0, .int .u64 0, .int .u64 0, .int .u64 0, .string ⟨#[]⟩] 35)).drew) := ((Below.refl _ w1).alloc (Nat.le_refl _) _).drew
      generalize (w1.alloc (.cells #[.int .i64 0, .int .u32 0, .int .u64 0, .int .u64 0, .int .u64 0, .string ⟨#[]⟩] 35)).drew = w2 at *
      have hbb : b < w1.heap.size := by omega
      have c2 := (bel2.cell (p := ⟨b, off + 2, none⟩) hbb).trans hcell
      refine hK1 _ _ ⟨c2, bel2⟩ (fun hS1 => ?_)
      clear hK1 K1
      try simp only [Act.put, List.setIfInBounds_toArray, List.set_cons_zero, List.set_cons_succ]
      refine any_one 19 (by kernel_rfl) rfl rfl (fun K2 hK2 => ?_)
      clear z0 z1 z2 z3 z4 z5 f0 f1 f2 f3 f4 f5
      obtain ⟨z0, z1, z2, z3, z4, z5⟩ := cells6 blk2
      obtain ⟨f0, f1, f2, f3, f4, f5⟩ := free6 blk2
      go_simp
      obtain ⟨w3, hw3, blk3, bel3, _⟩ := stored6 blk2 bel2 (Nat.le_refl _) (.int .i64 (l[2].toNat : Int)) (.int .u32 (get ((l.drop 3).take 4) : Int)) (.int .u64 (get ((l.drop 7).take 8) : Int)) (.int .u64 (get ((l.drop 15).take 8) : Int)) (.int .u64 (get ((l.drop 23).take 8) : Int)) (.string ⟨#[]⟩)
      rw [← hw3]
      have c3 := (bel3.cell (p := ⟨b, off + 2, none⟩) hbb).trans hcell
      refine hK2 _ _ ⟨c3, bel3⟩ (fun hS2 => ?_)
      clear hK2 K2
      try simp only [Act.put, List.setIfInBounds_toArray, List.set_cons_zero, List.set_cons_succ]
      refine any_done (by kernel_rfl) (NoPanic.normal ?_)
      have hz1 : w1.heap.size < w3.heap.size := blk3.lt
      have res3 : Blk w3 w.heap.size 35 #[.int .i64 0, .int .u32 0, .int .u64 0, .int .u64 0, .int .u64 0, .string ⟨#[]⟩] := Blk.below blk1 bel3 lt1
      have b3 : Below w.heap.size w w3 := bel1.trans (bel3.mono (by omega))
      clear hS0 hS1 hS2 hw3 bel2 blk2 z0 z1 z2 z3 z4 z5 f0 f1 f2 f3 f4 f5 c2 c3 hcell blk1 bel1 hbb hw4 hwk
      have HC := Lib.hid (headRec_cells l (by omega))
      have hNlt := get_part_lt l 31 4
      obtain ⟨N, hN⟩ : ∃ N, get ((l.drop 31).take 4) = N := ⟨_, rfl⟩
      have HN := Lib.hid (show dsz l = N from hN)
      rw [hN] at hNlt
      have R3 := Lib.hid (R0.out.below b3)
      go_wp2_with fail
      refine (numGetN _ _ 4 _ w3 w.heap.size (R3.out.part 31 4) (part_len _ _ _ (by omega)) (by omega)).mono ?_
      rintro e w' ⟨rfl, rfl⟩
      rw [hN]
      clear hN
      by_cases hbig : 1000 < N
      · have D := Lib.hid (show dec l = (zeroRec, 0, 4) by rw [DA.out, if_pos (Or.inl (by rw [HN.out]; exact hbig))])
        have hbig' : (1000 : Int) < (N : Int) := by omega
        obtain ⟨z0, z1, z2, z3, z4, z5⟩ := cells6 res3
        obtain ⟨f0, f1, f2, f3, f4, f5⟩ := free6 res3
        go_wp2
        have blk1 := res3
        have bel1 := b3
        obtain ⟨w2, hw2, blk2, bel2, _⟩ := stored6 blk1 bel1 (Nat.le_refl _) (.int .i64 0) (.int .u32 0) (.int .u64 0) (.int .u64 0) (.int .u64 0) (.string ⟨#[]⟩)
        rw [← hw2]
        clear hw2 z0 z1 z2 z3 z4 z5 f0 f1 f2 f3 f4 f5
        obtain ⟨z0, z1, z2, z3, z4, z5⟩ := cells6 blk2
        exact bodyPost_ret (v := .tuple #[.agg #[.int .i64 0, .int .u32 0, .int .u64 0, .int .u64 0, .int .u64 0, .string ⟨#[]⟩], .int .i64 0, .int .i64 4]) (by simp [results, Try.results31, go_sem, z0, z1, z2, z3, z4, z5]) rfl ⟨by rw [D.out]; rfl, bel2⟩
      · have hN1 : (N : Int) ≤ 1000 := by omega
        obtain ⟨q0, q1, q2, q3, q4, q5⟩ := cells6 blk3
        have MA := may_any (headRec l) w3 (by simp [headRec, maxLen])
        rw [HC.out] at MA
        have MA' := Lib.hid MA
        clear MA
        go_wp2_with fail
        refine MA'.out.mono ?_
        rintro e w4 ⟨rfl, hb4⟩
        have lt3 := res3.lt
        have res4 := res3.below hb4 lt3
        have blk4 := blk3.below hb4 hz1
        have b4 := b3.trans (hb4.mono b3.size)
        have R4 := Lib.hid (R0.out.below b4)
        have hz4 : w1.heap.size < w4.heap.size := blk4.lt
        clear q0 q1 q2 q3 q4 q5 MA' R3 b3 bel3
        by_cases hm : (headRec l).may = false
        · have D := Lib.hid (show dec l = (zeroRec, 0, 4) by rw [DA.out, if_pos (Or.inr hm)])
          rw [hm]
          clear hm
          obtain ⟨z0, z1, z2, z3, z4, z5⟩ := cells6 res4
          obtain ⟨f0, f1, f2, f3, f4, f5⟩ := free6 res4
          go_wp2
          have blk1 := res4
          have bel1 := b4
          obtain ⟨w2, hw2, blk2, bel2, _⟩ := stored6 blk1 bel1 (Nat.le_refl _) (.int .i64 0) (.int .u32 0) (.int .u64 0) (.int .u64 0) (.int .u64 0) (.string ⟨#[]⟩)
          rw [← hw2]
          clear hw2 z0 z1 z2 z3 z4 z5 f0 f1 f2 f3 f4 f5
          obtain ⟨z0, z1, z2, z3, z4, z5⟩ := cells6 blk2
          exact bodyPost_ret (v := .tuple #[.agg #[.int .i64 0, .int .u32 0, .int .u64 0, .int .u64 0, .int .u64 0, .string ⟨#[]⟩], .int .i64 0, .int .i64 4]) (by simp [results, Try.results31, go_sem, z0, z1, z2, z3, z4, z5]) rfl ⟨by rw [D.out]; rfl, bel2⟩
        · have hm : (headRec l).may = true := by simpa using hm
          have DB := Lib.hid (show dec l = _ by rw [DA.out, if_neg (by rw [HN.out, hm]; simp; omega)])
          rw [hm]
          clear hm
          by_cases hmore : l.length - 39 < N
          · have D := Lib.hid (show dec l = (zeroRec, 0, 11) by rw [DB.out, if_pos (by rw [HN.out]; exact hmore)])
            have hm' : (l.length : Int) - 39 < (N : Int) := by omega
            obtain ⟨z0, z1, z2, z3, z4, z5⟩ := cells6 res4
            obtain ⟨f0, f1, f2, f3, f4, f5⟩ := free6 res4
            go_wp2
            have blk1 := res4
            have bel1 := b4
            obtain ⟨w2, hw2, blk2, bel2, _⟩ := stored6 blk1 bel1 (Nat.le_refl _) (.int .i64 0) (.int .u32 0) (.int .u64 0) (.int .u64 0) (.int .u64 0) (.string ⟨#[]⟩)
            rw [← hw2]
            clear hw2 z0 z1 z2 z3 z4 z5 f0 f1 f2 f3 f4 f5
            obtain ⟨z0, z1, z2, z3, z4, z5⟩ := cells6 blk2
            exact bodyPost_ret (v := .tuple #[.agg #[.int .i64 0, .int .u32 0, .int .u64 0, .int .u64 0, .int .u64 0, .string ⟨#[]⟩], .int .i64 0, .int .i64 11]) (by simp [results, Try.results31, go_sem, z0, z1, z2, z3, z4, z5]) rfl ⟨by rw [D.out]; rfl, bel2⟩
          · have DC := Lib.hid (show dec l = _ by rw [DB.out, if_neg (by rw [HN.out]; exact hmore)])
            have hm' : (N : Int) ≤ (l.length : Int) - 39 := by omega
            go_upto_region 12 with fail
            go_cut [8] (fun s wx => ∃ A8, s = .slice A8 N (c - 39) ∧ RdB w4 w.heap.size A8 ((l.drop 39).take N) ∧ w4 = wx)
            case first =>
              by_cases h39' : c = 39
              · subst h39'
                obtain rfl : N = 0 := by omega
                go_wp2_with fail
                go_meet
                exact ⟨some ⟨b, off, none⟩, rfl, Rd.nil _ _ _, rfl⟩
              · go_wp2_with fail
                go_meet
                exact ⟨some ⟨b, off + 39, none⟩, by rw [show 39 + N - 39 = N from by omega], R4.out.part 39 N, rfl⟩
            case rest =>
              obtain ⟨A8, rfl, r8, rfl⟩ := hcut
              have hlen8 := part_len l 39 N (by omega)
              have HL8 := Lib.hid hlen8
              have R8 := Lib.hid r8
              have Hc1 := crcMore_sum (l.take 35) ((l.drop 39).take N)
              have HX := Lib.hid Hc1
              have hl35 : (l.take 35).length = 35 := by simp; omega
              have HL35 := Lib.hid hl35
              have hg4 := get_part_lt l 35 4
              obtain ⟨g4, hg⟩ : ∃ g, get ((l.drop 35).take 4) = g := ⟨_, rfl⟩
              rw [hg] at hg4
              have HG := Lib.hid hg
              have G4 := Lib.hid (show ∀ (w' : World) (c' : Nat), RdB w' w.heap.size (some ⟨b, off, none⟩) l → Calls Try.prog 56 #[.slice (some ⟨b, off + 35, none⟩) 4 c'] w' fun e w'' => e = .returned (.int .u64 (g4 : Int)) ∧ w' = w'' from fun w' c' h => by
                have h2 := numGetN _ c' 4 _ w' w.heap.size (h.part 35 4) (part_len _ _ _ (by omega)) (by omega)
                rw [hg] at h2
                exact h2)
              have hwg : IntKind.u32.wrap (g4 : Int) = (g4 : Int) := wrapU _ hg4
              clear hlen8 r8 Hc1 hl35 hg
              by_cases hcrc : crcSum (l.take 35 ++ (l.drop 39).take N) = BitVec.ofNat 32 g4
              · have D := Lib.hid (show dec l = ({ headRec l with body := ⟨((l.drop 39).take N).toArray⟩ }, 39 + N, 0) by rw [DC.out, if_pos (by rw [HN.out, HG.out]; exact hcrc), HN.out])
                have hne : (U (crcMore (crcSum (l.take 35)) ((l.drop 39).take N)) != (g4 : Int)) = false := by
                  rw [crcMore_sum, hcrc, ← U_lit g4 hg4]
                  simp
                clear hcrc
                go_wp2_with fail
                refine any_begin (fun w' => Below w4.heap.size w4 w') (by kernel_rfl) (Below.refl _ _).drew (fun hS0 => ?_)
                refine any_take 0 (v := ?_) rfl rfl (by kernel_rfl) (by kernel_rfl) (by kernel_rfl) (fun _ _ _ h => h) hS0 ?_ ?_
                rotate_left
                · (intro w' hSw; (try dsimp only at hSw); go_simp; first | done | with_reducible rfl)
                try simp only [Act.put, List.setIfInBounds_toArray, List.set_cons_zero, List.set_cons_succ]
                refine any_take 1 (v := ?_) rfl rfl (by kernel_rfl) (by kernel_rfl) (by kernel_rfl) (fun _ _ _ h => h) hS0 ?_ ?_
                rotate_left
                · (intro w' hSw; (try dsimp only at hSw); go_simp; first | done | with_reducible rfl)
                try simp only [Act.put, List.setIfInBounds_toArray, List.set_cons_zero, List.set_cons_succ]
                refine any_take 3 (v := ?_) rfl rfl (by kernel_rfl) (by kernel_rfl) (by kernel_rfl) (fun _ _ _ h => h) hS0 ?_ ?_
                rotate_left
                · (intro w' hSw; (try dsimp only at hSw); go_simp; first | done | with_reducible rfl)
                try simp only [Act.put, List.setIfInBounds_toArray, List.set_cons_zero, List.set_cons_succ]
                refine any_take 5 (v := ?_) rfl rfl (by kernel_rfl) (by kernel_rfl) (by kernel_rfl) (fun _ _ _ h => h) hS0 ?_ ?_
                rotate_left
                · (intro w' hSw; (try dsimp only at hSw); go_simp; first | done | with_reducible rfl)
                try simp only [Act.put, List.setIfInBounds_toArray, List.set_cons_zero, List.set_cons_succ]
                refine any_take 6 (v := ?_) rfl rfl (by kernel_rfl) (by kernel_rfl) (by kernel_rfl) (fun _ _ _ h => h) hS0 ?_ ?_
                rotate_left
                · (intro w' hSw; (try dsimp only at hSw); go_simp; first | done | with_reducible rfl)
                try simp only [Act.put, List.setIfInBounds_toArray, List.set_cons_zero, List.set_cons_succ]
                refine any_call 2 (v := ?_) (f := ?_) (args := ?_) rfl rfl (by kernel_rfl) (by kernel_rfl) (by kernel_rfl) (fun _ _ _ h => h) hS0 ?_ ?_ ?_
                rotate_left 3
                · (intro w' hSw; (try dsimp only at hSw); go_simp; first | done | (constructor <;> with_reducible rfl) | with_reducible rfl)
                · (intro w' hw; exact crcSum_any _ 35 _ (l.take 35) w' w.heap.size HL35.out.symm ((R4.out.below (hw.mono b4.size)).take 35) (by simp [maxLen]))
                try simp only [Act.put, List.setIfInBounds_toArray, List.set_cons_zero, List.set_cons_succ]
                refine any_call 4 (v := ?_) (f := ?_) (args := ?_) rfl rfl (by kernel_rfl) (by kernel_rfl) (by kernel_rfl) (fun _ _ _ h => h) hS0 ?_ ?_ ?_
                rotate_left 3
                · (intro w' hSw; (try dsimp only at hSw); go_simp; first | done | (constructor <;> with_reducible rfl) | with_reducible rfl)
                · (intro w' hw; exact crcMore_any _ _ N _ ((l.drop 39).take N) w' w.heap.size HL8.out.symm (R8.out.below (hw.mono b4.size)) (by unfold maxLen; omega))
                try simp only [Act.put, List.setIfInBounds_toArray, List.set_cons_zero, List.set_cons_succ]
                refine any_call 7 (v := ?_) (f := ?_) (args := ?_) rfl rfl (by kernel_rfl) (by kernel_rfl) (by kernel_rfl) (fun _ _ _ h => h) hS0 ?_ ?_ ?_
                rotate_left 3
                · (intro w' hSw; (try dsimp only at hSw); go_simp; first | done | (constructor <;> with_reducible rfl) | with_reducible rfl)
                · (intro w' hw; exact G4.out w' (c - 35) (R4.out.below (hw.mono b4.size)))
                try simp only [Act.put, List.setIfInBounds_toArray, List.set_cons_zero, List.set_cons_succ]
                refine any_take 8 (v := ?_) rfl rfl (by kernel_rfl) (by kernel_rfl) (by kernel_rfl) (fun _ _ _ h => h) hS0 ?_ ?_
                rotate_left
                · (intro w' hSw; (try dsimp only at hSw); go_simp; first | done | with_reducible rfl)
                try simp only [Act.put, List.setIfInBounds_toArray, List.set_cons_zero, List.set_cons_succ]
                refine any_take 9 (v := ?_) rfl rfl (by kernel_rfl) (by kernel_rfl) (by kernel_rfl) (fun _ _ _ h => h) hS0 ?_ ?_
                rotate_left
                · (intro w' hSw; (try dsimp only at hSw); go_simp; first | done | with_reducible rfl)
                try simp only [Act.put, List.setIfInBounds_toArray, List.set_cons_zero, List.set_cons_succ]
                refine any_done (by kernel_rfl) (NoPanic.normal ?_)
                clear hS0
                have res5 : Blk w4.drew w.heap.size 35 #[.int .i64 0, .int .u32 0, .int .u64 0, .int .u64 0, .int .u64 0, .string ⟨#[]⟩] := res4
                have blk5 : Blk w4.drew w1.heap.size 35 _ := blk4
                have b5 := b4.drew
                have R5 := Lib.hid (R8.out.below (Below.refl w.heap.size w4).drew)
                clear res4 blk4 b4 R8 hb4 R4
                have hz5 : w1.heap.size < w4.drew.heap.size := hz4
                clear hz4
                generalize w4.drew = w5 at *
                have ks := run_str_of w5 w.heap.size A8 (c - 39) N ((l.drop 39).take N) HL8.out R5.out
                obtain ⟨r0, r1, r2, r3, r4, r5⟩ := cells6 blk5
                obtain ⟨g0, g1, g2, g3, g4', g5⟩ := free6 blk5
                go_upto_region 16 with fail
                have hlt5 := res5.lt
                have blk6 := blk5.store 5 (.string ⟨((l.drop 39).take N).toArray⟩)
                have res6 := res5.other (k := w1.heap.size) (j := 5) (by omega) (.string ⟨((l.drop 39).take N).toArray⟩)
                have b6 := b5.setCell (p := ⟨w1.heap.size, 5, none⟩) (by simp; omega) (.string ⟨((l.drop 39).take N).toArray⟩)
                clear ks r0 r1 r2 r3 r4 r5 g0 g1 g2 g3 g4' g5
                generalize w5.setCell ⟨w1.heap.size, 5, none⟩ (.string ⟨((l.drop 39).take N).toArray⟩) = w6 at *
                obtain ⟨r0, r1, r2, r3, r4, r5⟩ := cells6 blk6
                obtain ⟨z0, z1, z2, z3, z4, z5⟩ := cells6 res6
                obtain ⟨f0, f1, f2, f3, f4, f5⟩ := free6 res6
                go_wp2_with fail
                obtain ⟨w7, hw7, blk7, bel7, _⟩ := stored6 res6 b6 (Nat.le_refl _) (.int .i64 (l[2].toNat : Int)) (.int .u32 (get ((l.drop 3).take 4) : Int)) (.int .u64 (get ((l.drop 7).take 8) : Int)) (.int .u64 (get ((l.drop 15).take 8) : Int)) (.int .u64 (get ((l.drop 23).take 8) : Int)) (.string ⟨((l.drop 39).take N).toArray⟩)
                rw [← hw7]
                clear hw7 z0 z1 z2 z3 z4 z5 f0 f1 f2 f3 f4 f5
                obtain ⟨z0, z1, z2, z3, z4, z5⟩ := cells6 blk7
                have hg2 : (headRec l).kind = (l[2].toNat : Int) := by
                  have : l.getD 2 0 = l[2] := by rw [List.getD_eq_getElem?_getD, List.getElem?_eq_getElem (by omega)]; rfl
                  simp only [headRec, this]
                exact bodyPost_ret (v := .tuple #[.agg #[.int .i64 (l[2].toNat : Int), .int .u32 (get ((l.drop 3).take 4) : Int), .int .u64 (get ((l.drop 7).take 8) : Int), .int .u64 (get ((l.drop 15).take 8) : Int), .int .u64 (get ((l.drop 23).take 8) : Int), .string ⟨((l.drop 39).take N).toArray⟩], .int .i64 (39 + (N : Int)), .int .i64 0]) (by simp [results, Try.results31, go_sem, z0, z1, z2, z3, z4, z5]) rfl ⟨by rw [D.out]; unfold recRes Rec.cells; simp only [hg2]; rfl, bel7⟩
              · have D := Lib.hid (show dec l = (zeroRec, 0, 4) by rw [DC.out, if_neg (by rw [HN.out, HG.out]; exact hcrc)])
                have hne : (U (crcMore (crcSum (l.take 35)) ((l.drop 39).take N)) != (g4 : Int)) = true := by
                  rw [crcMore_sum]
                  simp only [bne_iff_ne, ne_eq]
                  intro e
                  exact hcrc (U_inj (e.trans (U_lit g4 hg4)))
                clear hcrc
                go_wp2_with fail
                refine any_begin (fun w' => Below w4.heap.size w4 w') (by kernel_rfl) (Below.refl _ _).drew (fun hS0 => ?_)
                refine any_take 0 (v := ?_) rfl rfl (by kernel_rfl) (by kernel_rfl) (by kernel_rfl) (fun _ _ _ h => h) hS0 ?_ ?_
                rotate_left
                · (intro w' hSw; (try dsimp only at hSw); go_simp; first | done | with_reducible rfl)
                try simp only [Act.put, List.setIfInBounds_toArray, List.set_cons_zero, List.set_cons_succ]
                refine any_take 1 (v := ?_) rfl rfl (by kernel_rfl) (by kernel_rfl) (by kernel_rfl) (fun _ _ _ h => h) hS0 ?_ ?_
                rotate_left
                · (intro w' hSw; (try dsimp only at hSw); go_simp; first | done | with_reducible rfl)
                try simp only [Act.put, List.setIfInBounds_toArray, List.set_cons_zero, List.set_cons_succ]
                refine any_take 3 (v := ?_) rfl rfl (by kernel_rfl) (by kernel_rfl) (by kernel_rfl) (fun _ _ _ h => h) hS0 ?_ ?_
                rotate_left
                · (intro w' hSw; (try dsimp only at hSw); go_simp; first | done | with_reducible rfl)
                try simp only [Act.put, List.setIfInBounds_toArray, List.set_cons_zero, List.set_cons_succ]
                refine any_take 5 (v := ?_) rfl rfl (by kernel_rfl) (by kernel_rfl) (by kernel_rfl) (fun _ _ _ h => h) hS0 ?_ ?_
                rotate_left
                · (intro w' hSw; (try dsimp only at hSw); go_simp; first | done | with_reducible rfl)
                try simp only [Act.put, List.setIfInBounds_toArray, List.set_cons_zero, List.set_cons_succ]
                refine any_take 6 (v := ?_) rfl rfl (by kernel_rfl) (by kernel_rfl) (by kernel_rfl) (fun _ _ _ h => h) hS0 ?_ ?_
                rotate_left
                · (intro w' hSw; (try dsimp only at hSw); go_simp; first | done | with_reducible rfl)
                try simp only [Act.put, List.setIfInBounds_toArray, List.set_cons_zero, List.set_cons_succ]
                refine any_call 2 (v := ?_) (f := ?_) (args := ?_) rfl rfl (by kernel_rfl) (by kernel_rfl) (by kernel_rfl) (fun _ _ _ h => h) hS0 ?_ ?_ ?_
                rotate_left 3
                · (intro w' hSw; (try dsimp only at hSw); go_simp; first | done | (constructor <;> with_reducible rfl) | with_reducible rfl)
                · (intro w' hw; exact crcSum_any _ 35 _ (l.take 35) w' w.heap.size HL35.out.symm ((R4.out.below (hw.mono b4.size)).take 35) (by simp [maxLen]))
                try simp only [Act.put, List.setIfInBounds_toArray, List.set_cons_zero, List.set_cons_succ]
                refine any_call 4 (v := ?_) (f := ?_) (args := ?_) rfl rfl (by kernel_rfl) (by kernel_rfl) (by kernel_rfl) (fun _ _ _ h => h) hS0 ?_ ?_ ?_
                rotate_left 3
                · (intro w' hSw; (try dsimp only at hSw); go_simp; first | done | (constructor <;> with_reducible rfl) | with_reducible rfl)
                · (intro w' hw; exact crcMore_any _ _ N _ ((l.drop 39).take N) w' w.heap.size HL8.out.symm (R8.out.below (hw.mono b4.size)) (by unfold maxLen; omega))
                try simp only [Act.put, List.setIfInBounds_toArray, List.set_cons_zero, List.set_cons_succ]
                refine any_call 7 (v := ?_) (f := ?_) (args := ?_) rfl rfl (by kernel_rfl) (by kernel_rfl) (by kernel_rfl) (fun _ _ _ h => h) hS0 ?_ ?_ ?_
                rotate_left 3
                · (intro w' hSw; (try dsimp only at hSw); go_simp; first | done | (constructor <;> with_reducible rfl) | with_reducible rfl)
                · (intro w' hw; exact G4.out w' (c - 35) (R4.out.below (hw.mono b4.size)))
                try simp only [Act.put, List.setIfInBounds_toArray, List.set_cons_zero, List.set_cons_succ]
                refine any_take 8 (v := ?_) rfl rfl (by kernel_rfl) (by kernel_rfl) (by kernel_rfl) (fun _ _ _ h => h) hS0 ?_ ?_
                rotate_left
                · (intro w' hSw; (try dsimp only at hSw); go_simp; first | done | with_reducible rfl)
                try simp only [Act.put, List.setIfInBounds_toArray, List.set_cons_zero, List.set_cons_succ]
                refine any_take 9 (v := ?_) rfl rfl (by kernel_rfl) (by kernel_rfl) (by kernel_rfl) (fun _ _ _ h => h) hS0 ?_ ?_
                rotate_left
                · (intro w' hSw; (try dsimp only at hSw); go_simp; first | done | with_reducible rfl)
                try simp only [Act.put, List.setIfInBounds_toArray, List.set_cons_zero, List.set_cons_succ]
                refine any_done (by kernel_rfl) (NoPanic.normal ?_)
                clear hS0
                have res5 : Blk w4.drew w.heap.size 35 #[.int .i64 0, .int .u32 0, .int .u64 0, .int .u64 0, .int .u64 0, .string ⟨#[]⟩] := res4
                have blk5 : Blk w4.drew w1.heap.size 35 _ := blk4
                have b5 := b4.drew
                have R5 := Lib.hid (R8.out.below (Below.refl w.heap.size w4).drew)
                clear res4 blk4 b4 R8 hb4 R4
                have hz5 : w1.heap.size < w4.drew.heap.size := hz4
                clear hz4
                generalize w4.drew = w5 at *
                obtain ⟨z0, z1, z2, z3, z4, z5⟩ := cells6 res5
                obtain ⟨f0, f1, f2, f3, f4, f5⟩ := free6 res5
                go_wp2_with fail
                have blk1 := res5
                have bel1 := b5
                obtain ⟨w2, hw2, blk2, bel2, _⟩ := stored6 blk1 bel1 (Nat.le_refl _) (.int .i64 0) (.int .u32 0) (.int .u64 0) (.int .u64 0) (.int .u64 0) (.string ⟨#[]⟩)
                rw [← hw2]
                clear hw2 z0 z1 z2 z3 z4 z5 f0 f1 f2 f3 f4 f5
                obtain ⟨z0, z1, z2, z3, z4, z5⟩ := cells6 blk2
                exact bodyPost_ret (v := .tuple #[.agg #[.int .i64 0, .int .u32 0, .int .u64 0, .int .u64 0, .int .u64 0, .string ⟨#[]⟩], .int .i64 0, .int .i64 4]) (by simp [results, Try.results31, go_sem, z0, z1, z2, z3, z4, z5]) rfl ⟨by rw [D.out]; rfl, bel2⟩
end Go.Proofs.Ytehhgfkbcjbciaa
