/- The reference's Encode. -/
import Derived.Test.YtehhgfkbcjbciaaBox
import Derived.Test.YtehhgfkbcjbciaaStrs
import Derived.Test.YtehhgfkbcjbciaaPlan
import Derived.Lib.SlBytesConst
import Derived.Deep.DeepCutAuto
import Derived.Deep.RegionHeld3
namespace Go.Proofs.Ytehhgfkbcjbciaa
open Go.RowKit

set_option maxRecDepth 100000 in
set_option maxHeartbeats 1000000 in
theorem refEncode_no (R : Rec) (w : World) (hs : R.body.size ≤ maxLen) (hm : R.may = false) :
    Calls Try.prog 28 #[.agg R.cells] w fun e w' => e = .returned (.slice none 0 0) ∧ Below w.heap.size w w' := by
  have HM := Lib.hid hm
  have hM := Lib.hid (fun W => refMay_any R W hs)
  clear hm hs
  unfold Rec.cells at *
  go_enter Try.func28, Try.ntmps28
  go_wp2_with fail
  refine (hM.out _).mono ?_
  rintro e w1 ⟨rfl, hb1⟩
  rw [HM.out]
  go_wp2
  go_ret
  exact ⟨rfl, ((Below.refl _ _).alloc (Nat.le_refl _) _).trans (hb1.mono (by simp))⟩

set_option maxRecDepth 100000 in
set_option maxHeartbeats 2000000 in
theorem refEncode_yes (R : Rec) (w : World) (ok : R.Ok) (hs : R.body.size ≤ maxLen) (hm : R.may = true) :
    Calls Try.prog 28 #[.agg R.cells] w fun e w' => ∃ v, e = .returned v ∧ OwnB w' w.heap.size v (enc R) ∧ Below w.heap.size w w' := by
  have HM := Lib.hid hm
  have hM := Lib.hid (fun W => refMay_any R W hs)
  have OK := Lib.hid ok
  have b1000 : R.body.size ≤ 1000 := by simp only [Rec.may, decide_eq_true_eq] at hm; omega
  clear hm ok hs
  unfold Rec.cells at *
  go_enter Try.func28, Try.ntmps28
  go_wp2_with fail
  refine (hM.out _).mono ?_
  rintro e w1 ⟨rfl, hb1⟩
  rw [HM.out]
  have box1 : Box w1 w.heap.size R := Box.below (heap_alloc_new w _) hb1 (by simp)
  have bel1 : Below w.heap.size w w1 := ((Below.refl _ w).alloc (Nat.le_refl _) _).trans (hb1.mono (by simp))
  have lt1 := box1.lt
  obtain ⟨q0, q1, q2, q3, q4, q5⟩ := box1.cells
  have kb : (.int .u8 (R.kind % 256) : Value) = B (UInt8.ofNat R.kind.toNat) := by
    have := HM.out
    simp only [Rec.may, decide_eq_true_eq] at this
    unfold B
    rw [ofNat8]
    congr 1
    omega
  have HKB := Lib.hid kb
  clear kb hb1
  go_wp2_with fail
  rw [HKB.out]
  have own2 : OwnB (w1.alloc (.cells #[.int .u8 83, .int .u8 82, B (UInt8.ofNat R.kind.toNat)] 5)) (w.heap.size + 1) (.slice (some ⟨w1.heap.size, 0, none⟩) 3 3) [83, 82, UInt8.ofNat R.kind.toNat] := OwnB.new w1 _ [83, 82, UInt8.ofNat R.kind.toNat] lt1 (by simp [maxLen])
  have st2 : St w (w1.alloc (.cells #[.int .u8 83, .int .u8 82, B (UInt8.ofNat R.kind.toNat)] 5)) (.slice (some ⟨w1.heap.size, 0, none⟩) 3 3) [83, 82, UInt8.ofNat R.kind.toNat] R := ⟨own2, box1.alloc _, bel1.alloc bel1.size _⟩
  generalize w1.alloc (.cells #[.int .u8 83, .int .u8 82, B (UInt8.ofNat R.kind.toNat)] 5) = w2 at *
  generalize (.slice (some ⟨w1.heap.size, 0, none⟩) 3 3 : Value) = v2 at *
  clear own2 box1 bel1 lt1
  rw [wrap64_nat _ (by have := OK.out.tenant; omega)]
  go_wp2_with fail
  refine (refPut4 R.tenant w2 (w.heap.size + 1) (by have := OK.out.tenant; omega) st2.lt).mono ?_
  rintro e x3 ⟨y3, rfl, oy3, hx3⟩
  obtain ⟨A3, c3, rfl, _, _, r3, _⟩ := oy3.slice
  have sx3 := st2.below hx3
  rw [put_len]
  clear oy3 hx3 st2 q0 q1 q2 q3 q4 q5
  go_wp2_with (at_builtin; go_loud (refine wpList_append_u8 rfl (.tmp 12) (.tmp 16) rfl (w.heap.size + 1) v2 _ rfl sx3.own x3.heap.size A3 4 c3 (put R.tenant 4) rfl (put_len _ _).symm r3 (by simp [put_len]) sx3.lt ?_; intro v3 w3 own3 g3; have st3 := sx3.app own3 g3; obtain ⟨q0, q1, q2, q3, q4, q5⟩ := st3.box.cells; clear own3 g3 sx3 r3))
  go_wp2_with fail
  refine (refPut8 R.epoch w3 (w.heap.size + 1) OK.out.epoch st3.lt).mono ?_
  rintro e x4 ⟨y4, rfl, oy4, hx4⟩
  obtain ⟨A4, c4, rfl, _, _, r4, _⟩ := oy4.slice
  have sx4 := st3.below hx4
  rw [put_len]
  clear oy4 hx4 st3 q0 q1 q2 q3 q4 q5
  go_wp2_with (at_builtin; go_loud (refine wpList_append_u8 rfl (.tmp 18) (.tmp 21) rfl (w.heap.size + 1) v3 _ rfl sx4.own x4.heap.size A4 8 c4 (put R.epoch 8) rfl (put_len _ _).symm r4 (by simp [put_len]) sx4.lt ?_; intro v4 w4 own4 g4; have st4 := sx4.app own4 g4; obtain ⟨q0, q1, q2, q3, q4, q5⟩ := st4.box.cells; clear own4 g4 sx4 r4))
  go_wp2_with fail
  refine (refPut8 R.object w4 (w.heap.size + 1) OK.out.object st4.lt).mono ?_
  rintro e x5 ⟨y5, rfl, oy5, hx5⟩
  obtain ⟨A5, c5, rfl, _, _, r5, _⟩ := oy5.slice
  have sx5 := st4.below hx5
  rw [put_len]
  clear oy5 hx5 st4 q0 q1 q2 q3 q4 q5
  go_wp2_with (at_builtin; go_loud (refine wpList_append_u8 rfl (.tmp 23) (.tmp 26) rfl (w.heap.size + 1) v4 _ rfl sx5.own x5.heap.size A5 8 c5 (put R.object 8) rfl (put_len _ _).symm r5 (by simp [put_len]) sx5.lt ?_; intro v5 w5 own5 g5; have st5 := sx5.app own5 g5; obtain ⟨q0, q1, q2, q3, q4, q5⟩ := st5.box.cells; clear own5 g5 sx5 r5))
  go_wp2_with fail
  refine (refPut8 R.seq w5 (w.heap.size + 1) OK.out.seq st5.lt).mono ?_
  rintro e x6 ⟨y6, rfl, oy6, hx6⟩
  obtain ⟨A6, c6, rfl, _, _, r6, _⟩ := oy6.slice
  have sx6 := st5.below hx6
  rw [put_len]
  clear oy6 hx6 st5 q0 q1 q2 q3 q4 q5
  go_wp2_with (at_builtin; go_loud (refine wpList_append_u8 rfl (.tmp 28) (.tmp 31) rfl (w.heap.size + 1) v5 _ rfl sx6.own x6.heap.size A6 8 c6 (put R.seq 8) rfl (put_len _ _).symm r6 (by simp [put_len]) sx6.lt ?_; intro v6 w6 own6 g6; have st6 := sx6.app own6 g6; obtain ⟨q0, q1, q2, q3, q4, q5⟩ := st6.box.cells; clear own6 g6 sx6 r6))
  go_wp2_with fail
  refine (refPut4 R.body.size w6 (w.heap.size + 1) (by omega) st6.lt).mono ?_
  rintro e x7 ⟨y7, rfl, oy7, hx7⟩
  obtain ⟨A7, c7, rfl, _, _, r7, _⟩ := oy7.slice
  have sx7 := st6.below hx7
  rw [put_len]
  clear oy7 hx7 st6 q0 q1 q2 q3 q4 q5
  go_wp2_with (at_builtin; go_loud (refine wpList_append_u8 rfl (.tmp 33) (.tmp 38) rfl (w.heap.size + 1) v6 _ rfl sx7.own x7.heap.size A7 4 c7 (put R.body.size 4) rfl (put_len _ _).symm r7 (by simp [put_len]) sx7.lt ?_; intro v7 w7 own7 g7; have st7 := sx7.app own7 g7; obtain ⟨q0, q1, q2, q3, q4, q5⟩ := st7.box.cells; clear own7 g7 sx7 r7))
  have hL : [83, 82, UInt8.ofNat R.kind.toNat] ++ put R.tenant 4 ++ put R.epoch 8 ++ put R.object 8 ++ put R.seq 8 ++ put R.body.size 4 = hd R := rfl
  rw [hL] at st7
  clear hL
  obtain ⟨A7, c7, rfl, hc7, hm7, r7, lt7⟩ := st7.own.slice
  rw [hd_len] at *
  have D7 : Below w7.heap.size w7 w7.drew := (Below.refl _ _).drew
  have hz7 := st7.lt
  clear q0 q1 q2 q3 q4
  refine any_begin (fun w' => w'.cell? ⟨w.heap.size, 5, none⟩ = some (.string R.body)) (by kernel_rfl) q5 (fun hS0 => ?_)
  refine any_take 0 (v := ?_) rfl rfl (by kernel_rfl) (by kernel_rfl) (by kernel_rfl) (fun _ _ _ h => h) hS0 ?_ ?_
  rotate_left
  · (intro w' hSw; (try dsimp only at hSw); go_simp; first | done | with_reducible rfl)
  try simp only [Act.put, List.setIfInBounds_toArray, List.set_cons_zero, List.set_cons_succ]
  refine any_take 2 (v := ?_) rfl rfl (by kernel_rfl) (by kernel_rfl) (by kernel_rfl) (fun _ _ _ h => h) hS0 ?_ ?_
  rotate_left
  · (intro w' hSw; (try dsimp only at hSw); go_simp; first | done | with_reducible rfl)
  try simp only [Act.put, List.setIfInBounds_toArray, List.set_cons_zero, List.set_cons_succ]
  refine any_take 3 (v := ?_) rfl rfl (by kernel_rfl) (by kernel_rfl) (by kernel_rfl) (fun _ _ _ h => h) hS0 ?_ ?_
  rotate_left
  · (intro w' hSw; (try dsimp only at hSw); go_simp; first | done | with_reducible rfl)
  try simp only [Act.put, List.setIfInBounds_toArray, List.set_cons_zero, List.set_cons_succ]
  refine any_one 1 (by kernel_rfl) rfl rfl (fun K1 hK1 => ?_)
  refine wp_append_u8 _ _ rfl w7.heap.size (.slice none 0 0) [] rfl (OwnB.nil _ _) w7.heap.size A7 35 c7 (hd R) rfl (hd_len R).symm (r7.below D7) (by rw [hd_len]; simp) (Nat.le_refl _) (fun v8 w8 own8 g8 => ?_)
  have D8 := D7.grown g8 (Nat.le_refl _) (fun _ h => by cases h)
  have hz8 := D8.size
  rw [List.nil_append] at own8
  have q8 := (D8.cell (p := ⟨w.heap.size, 5, none⟩) hz7).trans q5
  clear g8
  refine hK1 _ _ q8 (fun hS1 => ?_)
  clear hK1 K1
  try simp only [Act.put, List.setIfInBounds_toArray, List.set_cons_zero, List.set_cons_succ]
  refine any_one 4 (by kernel_rfl) rfl rfl (fun K2 hK2 => ?_)
  refine wp_append_str _ _ rfl w7.heap.size v8 _ rfl own8 R.body rfl (by rw [hd_len]; omega) hz8 (fun v9 w9 own9 g9 => ?_)
  have D9 := D8.grown g9 hz8 (fun g hg => (own8.lt g hg).1)
  have q9 := (D9.cell (p := ⟨w.heap.size, 5, none⟩) hz7).trans q5
  obtain ⟨A9, c9, rfl, hc9, hm9, r9, _⟩ := own9.slice
  clear g9 own8 own9
  refine hK2 _ _ q9 (fun hS2 => ?_)
  clear hK2 K2
  try simp only [Act.put, List.setIfInBounds_toArray, List.set_cons_zero, List.set_cons_succ]
  refine any_one 5 (by kernel_rfl) rfl rfl (fun K3 hK3 => ?_)
  go_simp
  have hs9 : (hd R ++ lst R.body).length ≤ maxLen := by rw [List.length_append, hd_len, lst_len]; unfold maxLen; omega
  refine (refSum_any A9 _ c9 (hd R ++ lst R.body) _ w9.heap.size (by first | rfl | (simp; done)) r9 (by first | exact hs9 | (simp at hs9 ⊢; exact hs9))).mono ?_
  rintro e w' ⟨rfl, rfl⟩
  refine hK3 _ _ q9 (fun hS3 => ?_)
  clear hK3 K3
  try simp only [Act.put, List.setIfInBounds_toArray, List.set_cons_zero, List.set_cons_succ]
  refine any_one 6 (by kernel_rfl) rfl rfl (fun K4 hK4 => ?_)
  go_simp
  refine hK4 _ _ q9 (fun hS4 => ?_)
  clear hK4 K4
  try simp only [Act.put, List.setIfInBounds_toArray, List.set_cons_zero, List.set_cons_succ]
  refine any_done (by kernel_rfl) (NoPanic.normal ?_)
  have st9 := st7.below D9
  clear hS0 hS1 hS2 hS3 hS4 r9 D9 D8 hz8 q8 q9 q5 r7 lt7 D7 hz7 st7 hs9
  obtain ⟨n, hn, hlt⟩ : ∃ n : Nat, (crcSum (hd R ++ lst R.body)).toNat = n ∧ n < 4294967296 := ⟨_, rfl, (crcSum (hd R ++ lst R.body)).isLt⟩
  have hU : U (crcSum (hd R ++ lst R.body)) = (n : Int) := by unfold U; rw [hn]
  rw [hU]
  have Hn := Lib.hid (show (crcSum (hd R ++ R.bytes)).toNat = n from hn)
  clear hn hU
  go_wp2_with fail
  refine (refPut4 n w9 (w.heap.size + 1) (by omega) st9.lt).mono ?_
  rintro e x10 ⟨y10, rfl, oy10, hx10⟩
  obtain ⟨A10, c10, rfl, _, _, r10, _⟩ := oy10.slice
  have sx10 := st9.below hx10
  rw [put_len]
  clear oy10 hx10 st9
  obtain ⟨q0, q1, q2, q3, q4, q5⟩ := sx10.box.cells
  clear q0 q1 q2 q3 q4 q5
  go_wp2_with (first
    | (at_builtin; refine wpList_append_u8 rfl (.tmp 46) (.tmp 49) rfl (w.heap.size + 1) (.slice A7 35 c7) _ rfl sx10.own x10.heap.size A10 4 c10 (put n 4) rfl (put_len _ _).symm r10 (by simp [put_len, hd_len]) sx10.lt ?_; intro v11 w11 own11 g11; have st11 := sx10.app own11 g11; obtain ⟨q0, q1, q2, q3, q4, q5⟩ := st11.box.cells; clear own11 g11 sx10 r10 q0 q1 q2 q3 q4)
    | (at_builtin; refine wpList_append_str rfl (.tmp 51) (.tmp 53) rfl (w.heap.size + 1) v11 _ rfl st11.own R.body rfl (by rw [List.length_append, hd_len, put_len]; omega) st11.lt ?_; intro v12 w12 own12 g12))
  have st12 := st11.app own12 g12
  go_ret
  have he : enc R = hd R ++ put n 4 ++ lst R.body := by
    unfold enc
    rw [if_pos HM.out, Hn.out]
    rfl
  refine ⟨v12, rfl, ?_, st12.bel⟩
  rw [he]
  exact st12.own.base (by omega)

theorem refEncode_any (R : Rec) (w : World) (ok : R.Ok) (hs : R.body.size ≤ maxLen) :
    Calls Try.prog 28 #[.agg R.cells] w fun e w' => ∃ v, e = .returned v ∧ OwnB w' w.heap.size v (enc R) ∧ Below w.heap.size w w' := by
  cases hm : R.may with
  | true => exact refEncode_yes R w ok hs hm
  | false => exact (refEncode_no R w hs hm).mono fun e w' ⟨he, hb⟩ => ⟨_, he, by rw [enc, if_neg (by simp [hm])]; exact OwnB.nil _ _, hb⟩

end Go.Proofs.Ytehhgfkbcjbciaa
