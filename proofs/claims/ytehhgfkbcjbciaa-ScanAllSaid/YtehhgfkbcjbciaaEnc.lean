/- record.Encode and the reference's. -/
import Derived.Test.YtehhgfkbcjbciaaBox
import Derived.Test.YtehhgfkbcjbciaaStrs
import Derived.Lib.SlBytesConst
import Derived.Deep.DeepCutAuto
import Derived.Deep.RegionHeld3
import Derived.Test.YtehhgfkbcjbciaaPlan
import Derived.Deep.DeepMust
namespace Go.Proofs.Ytehhgfkbcjbciaa
open Go.RowKit

set_option maxRecDepth 100000 in
set_option maxHeartbeats 1000000 in
theorem encode_no (R : Rec) (w : World) (hs : R.body.size ≤ maxLen) (hm : R.may = false) :
    Calls Try.prog 27 #[.agg R.cells] w fun e w' => e = .returned (.slice none 0 0) ∧ Below w.heap.size w w' := by
  have HM := Lib.hid hm
  have hM := Lib.hid (fun W => may_any R W hs)
  clear hm hs
  unfold Rec.cells at *
  go_enter Try.func27, Try.ntmps27
  go_wp2_with fail
  refine (hM.out _).mono ?_
  rintro e w1 ⟨rfl, hb1⟩
  rw [HM.out]
  go_wp2
  go_ret
  exact ⟨rfl, ((Below.refl _ _).alloc (Nat.le_refl _) _).trans (hb1.mono (by simp))⟩

set_option maxRecDepth 100000 in
set_option maxHeartbeats 1000000 in
theorem encode_yes (R : Rec) (w : World) (ok : R.Ok) (hs : R.body.size ≤ maxLen) (hm : R.may = true) :
    Calls Try.prog 27 #[.agg R.cells] w fun e w' => ∃ v, e = .returned v ∧ OwnB w' w.heap.size v (enc R) ∧ Below w.heap.size w w' := by
  have HM := Lib.hid hm
  have hM := Lib.hid (fun W => may_any R W hs)
  clear hm
  have kc := fun (w : World) (C : Array Value) (n c : Nat) => Lib.run_convert_bytes_const (P := Try.prog) w 24 5 C n c Try.underlying24 Try.underlying5
  unfold Rec.cells at *
  go_enter Try.func27, Try.ntmps27
  go_wp2_with fail
  refine (hM.out _).mono ?_
  rintro e w1 ⟨rfl, hb1⟩
  rw [HM.out]
  have box1 : Box w1 w.heap.size R := Box.below (heap_alloc_new w _) hb1 (by simp)
  have lt1 := box1.lt
  obtain ⟨q0, q1, q2, q3, q4, q5⟩ := box1.cells
  have kb : (.int .u8 (R.kind % 256) : Value) = B (UInt8.ofNat R.kind.toNat) := by
    have := HM.out
    simp only [Rec.may, decide_eq_true_eq] at this
    unfold B
    rw [ofNat8]
    congr 1
    omega
  have HKB := Lib.hid kb
  clear kb
  go_wp2_with (first
    | (at_builtin; rw [HKB.out]; go_loud (refine wpList_append_grow_u8 rfl (.tmp 11) (.tmp 15) rfl w1.heap.size 0 2 (w1.heap.size + 1) (w1.heap.size + 1 + 1) [83, 82] 2 rfl rfl (Rd.alloc (Rd.new w1 _ _ _) (by simp) _) (some ⟨w1.heap.size + 1, 0, none⟩) 1 1 [UInt8.ofNat R.kind.toNat] rfl rfl (Rd.new2 w1 _ _ _ _) (by simp) (by simp) (by simp) ?_; intro v2 w2 own2 hb2; have box2 : Box w2 w.heap.size R := Box.below ((box1.alloc _).alloc _) hb2 ((box1.alloc _).alloc _).lt; obtain ⟨p0, p1, p2, p3, p4, p5⟩ := box2.cells; clear q0 q1 q2 q3 q4 q5)))
  have lt2 := box2.lt
  have own2' := own2.base (base' := w.heap.size + 1) (by simp; omega)
  have e2 : ([83, 82] ++ [UInt8.ofNat R.kind.toNat] : List UInt8) = [83, 82, UInt8.ofNat R.kind.toNat] := rfl
  rw [e2] at own2'
  have bel2 : Below w.heap.size w w2 := ((((Below.refl _ w).alloc (Nat.le_refl _) _).trans (hb1.mono (by simp))).alloc (by omega) _ |>.alloc (by simp; omega) _).trans (hb2.mono (by simp; omega))
  clear own2 e2 hb1 box1 lt1 kc
  rw [wrap64_nat _ (by have := ok.tenant; omega)]
  refine (numPut_any R.tenant 4 w2 w.heap.size (by omega) (by have := ok.tenant; omega) (by omega)).mono ?_
  rintro e w3 ⟨v3, rfl, own3, hb3⟩
  have box3 := box2.below hb3 lt2
  have lt3 := box3.lt
  obtain ⟨A3, c3, rfl, hc3, hm3, r3, _⟩ := own3.slice
  have own2b := own2'.below hb3
  clear own2' own3
  rw [put_len]
  go_wp2_with (at_builtin; go_loud (refine wpList_append_u8 rfl (.tmp 17) (.tmp 21) rfl (w.heap.size + 1) v2 _ rfl own2b w3.heap.size A3 4 c3 (put R.tenant 4) rfl (put_len _ _).symm r3 (by simp [put_len]) (by omega) ?_; intro v4 w4 own4 g4; have box4 : Box w4 w.heap.size R := box3.grown g4 (fun g hg => by have := (own2b.lt g hg).1; omega); obtain ⟨q0, q1, q2, q3, q4, q5⟩ := box4.cells; clear p0 p1 p2 p3 p4 p5))
  have bel4 : Below w.heap.size w w4 := (bel2.trans (hb3.mono (by omega))).grown g4 (by omega) (fun g hg => by have := (own2b.lt g hg).1; omega)
  have hlt4 := box4.lt
  have blk5 := Blk.new w4 33 #[.int .u64 (R.epoch : Int), .int .u64 (R.object : Int), .int .u64 (R.seq : Int)]
  have box5 := Box.alloc box4 (.cells #[.int .u64 (R.epoch : Int), .int .u64 (R.object : Int), .int .u64 (R.seq : Int)] 33)
  have own5 : OwnB (w4.alloc (.cells #[.int .u64 (R.epoch : Int), .int .u64 (R.object : Int), .int .u64 (R.seq : Int)] 33)) (w.heap.size + 1) v4 _ := own4.below ((Below.refl _ _).alloc (Nat.le_refl _) _)
  have bel5 := bel4.alloc (by omega) (.cells #[.int .u64 (R.epoch : Int), .int .u64 (R.object : Int), .int .u64 (R.seq : Int)] 33)
  generalize w4.alloc (.cells #[.int .u64 (R.epoch : Int), .int .u64 (R.object : Int), .int .u64 (R.seq : Int)] 33) = w5 at *
  generalize w4.heap.size = g at *
  clear own4 box4 g4 own2b r3 hb3 hlt4 bel4 q0 q1 q2 q3 q4 q5 lt3 box3
  generalize hL4 : [83, 82, UInt8.ofNat R.kind.toNat] ++ put R.tenant 4 = L4 at own5
  have HL4 := Lib.hid hL4
  have len4 : L4.length = 7 := by rw [← hL4]; simp [put_len]
  clear hL4
  have ge := ok.epoch
  have go := ok.object
  have gs := ok.seq
  have HK := Lib.hid (And.intro ge (And.intro go gs))
  clear ge go gs
  go_loopw [3, 31] (fun v i wr => ∃ k : Nat, k ≤ 3 ∧ i = .int .i64 k ∧ OwnB wr (w.heap.size + 1) v (L4 ++ ([R.epoch, R.object, R.seq].take k).flatMap (put · 8)) ∧ Box wr w.heap.size R ∧ Blk wr g 33 #[.int .u64 (R.epoch : Int), .int .u64 (R.object : Int), .int .u64 (R.seq : Int)] ∧ Below w.heap.size w wr) (fun _ i _ => 3 - (intOf i).toNat)
  case atStart => exact ⟨0, by omega, rfl, by simpa using own5, box5, blk5, bel5⟩
  case round =>
    obtain ⟨k, hk, rfl, own6, box6, blk6, bel6⟩ := hrel
    clear own5 box5 blk5 bel5
    by_cases hlt : k < 3
    · obtain ⟨n, hn, hn1, hn2⟩ : ∃ n : Nat, [R.epoch, R.object, R.seq][k]? = some n ∧ n < 18446744073709551616 ∧ wr.cell? ⟨g, k, none⟩ = some (.int .u64 (n : Int)) := by
        rw [blk6.cell]
        match k, hlt with
        | 0, _ => exact ⟨_, rfl, HK.out.1, rfl⟩
        | 1, _ => exact ⟨_, rfl, HK.out.2.1, rfl⟩
        | 2, _ => exact ⟨_, rfl, HK.out.2.2, rfl⟩
      have HN := Lib.hid hn
      have HN1 := Lib.hid hn1
      clear hn hn1
      go_wp2_with fail
      have lt6 := box6.lt
      refine (numPut_any n 8 wr (w.heap.size + 1) (by omega) HN1.out (by omega)).mono ?_
      rintro e w7 ⟨v7, rfl, own7, hb7⟩
      obtain ⟨A7, c7, rfl, hc7, hm7, r7, _⟩ := own7.slice
      have own8 := own6.below hb7
      have box8 := box6.below hb7 lt6
      have blk8 := blk6.below hb7 blk6.lt
      have lt8 := box8.lt
      have bel8 := bel6.trans (hb7.mono bel6.size)
      have hfl : (([R.epoch, R.object, R.seq].take k).flatMap (put · 8)).length ≤ 24 := by
        have : ∀ l : List Nat, (l.flatMap (put · 8)).length = 8 * l.length := by
          intro l; induction l with
          | nil => rfl
          | cons a l ih => simp [ih, put_len]; omega
        rw [this]; simp; omega
      clear own6 own7 hb7 box6 blk6 lt6
      rw [put_len]
      go_wp2_with (at_builtin; go_loud (refine wpList_append_u8 rfl (.tmp 35) (.tmp 37) rfl (w.heap.size + 1) u3 _ rfl own8 w7.heap.size A7 8 c7 (put n 8) rfl (put_len _ _).symm r7 (by rw [List.length_append, put_len]; omega) (by omega) ?_; intro v9 w9 own9 g9))
      have box9 : Box w9 w.heap.size R := box8.grown g9 (fun g hg => by have := (own8.lt g hg).1; omega)
      have blk9 := blk8.grown g9 (own8.ne blk8 (by decide))
      have bel9 := bel8.grown g9 (by omega) (fun g hg => by have := (own8.lt g hg).1; omega)
      go_wp2
      go_roundw
      case rel =>
        refine ⟨k + 1, by omega, by go_num, ?_, box9, blk9, bel9⟩
        rw [List.append_assoc] at own9
        have e : ([R.epoch, R.object, R.seq].take (k + 1)).flatMap (put · 8) = ([R.epoch, R.object, R.seq].take k).flatMap (put · 8) ++ put n 8 := by
          have hn := HN.out
          obtain ⟨h1, h2⟩ := List.getElem?_eq_some_iff.1 hn
          rw [List.take_succ_eq_append_getElem h1, List.flatMap_append, h2]; simp
        rw [e]
        exact own9
      case measure => simp [intOf]; omega
    · obtain rfl : k = 3 := by omega
      obtain ⟨q0, q1, q2, q3, q4, q5⟩ := box6.cells
      have hs' := hs
      unfold maxLen at hs'
      go_wp2_with fail
      clear q0 q1 q2 q3 q4 q5
      refine (numPut_any R.body.size 4 wr (w.heap.size + 1) (by omega) (by omega) (by have := box6.lt; omega)).mono ?_
      rintro e w7 ⟨v7, rfl, own7, hb7⟩
      obtain ⟨A7, c7, rfl, hc7, hm7, r7, _⟩ := own7.slice
      have own8 := own6.below hb7
      have box8 := box6.below hb7 box6.lt
      have lt8 := box8.lt
      have bel8 := bel6.trans (hb7.mono bel6.size)
      have hfl : (([R.epoch, R.object, R.seq].take 3).flatMap (put · 8)).length = 24 := by simp [put_len]
      have Hfl := Lib.hid hfl
      clear hfl own6 own7 hb7 box6 blk6
      rw [put_len]
      go_wp2_with (at_builtin; go_loud (refine wpList_append_u8 rfl (.tmp 40) (.tmp 45) rfl (w.heap.size + 1) u3 _ rfl own8 w7.heap.size A7 4 c7 (put R.body.size 4) rfl (put_len _ _).symm r7 (by rw [List.length_append, Hfl.out, put_len]; omega) (by omega) ?_; intro v9 w9 own9 g9))
      have box9 : Box w9 w.heap.size R := box8.grown g9 (fun g hg => by have := (own8.lt g hg).1; omega)
      have bel9 := bel8.grown g9 (by omega) (fun g hg => by have := (own8.lt g hg).1; omega)
      have hhd : L4 ++ ([R.epoch, R.object, R.seq].take 3).flatMap (put · 8) ++ put R.body.size 4 = hd R := by
        rw [← HL4.out]; simp [hd]
      rw [hhd] at own9
      clear own8 g9 box8 r7 hhd
      obtain ⟨A9, c9, rfl, hc9, hm9, r9, lt9⟩ := own9.slice
      rw [hd_len] at *
      have lb9 := box9.lt
      obtain ⟨_, _, _, _, _, q5⟩ := box9.cells
      have kb := run_bytes_of
      have Own9 := Lib.hid own9
      have R9 := Lib.hid r9
      have Bel9 := Lib.hid bel9
      have Box9 := Lib.hid box9
      have D9 : Below w9.heap.size w9 w9 := Below.refl _ _
      clear own9 r9 bel9 box9 lt9
      have hbs : R.bytes.length ≤ maxLen := by rw [R.bytes_len]; exact hs
      have D9d := D9.drew
      have D9b := below_bytes' (e := 5) (s := R.body) D9d
      go_cut [6] (fun s wx => s = .int .u32 (U (crcSum (hd R ++ R.bytes))) ∧ Below w9.heap.size w9 wx)
      case first =>
        go_region_with (first
            | (go_at_call 22; refine (crcSum_any A9 35 c9 (hd R) _ w9.heap.size (hd_len R).symm (R9.out.below (by first | exact D9d | exact D9b)) (by simp [maxLen])).mono ?_; rintro e w' ⟨rfl, rfl⟩)
            | (go_at_call 23; refine (crcMore_any (crcSum (hd R)) _ _ _ R.bytes _ _ R.bytes_len.symm (RdB.bytes _ _) (by rw [← R.bytes_len]; exact hbs)).mono ?_; rintro e w' ⟨rfl, rfl⟩))
        all_goals
          rw [crcMore_sum]
          go_wp2_with fail
          go_meet
          exact ⟨rfl, D9b⟩
      case rest =>
        obtain ⟨rfl, bel10⟩ := hcut
        clear D9 D9d D9b kb q5
        have own10 := Own9.out.below bel10
        have box10 := Box9.out.below bel10 Box9.out.lt
        have bel10' := Bel9.out.trans (bel10.mono Bel9.out.size)
        have lb10 := box10.lt
        have q5 := box10.cells.2.2.2.2.2
        have Bs := Lib.hid hbs
        obtain ⟨n, hn, hlt⟩ : ∃ n : Nat, (crcSum (hd R ++ R.bytes)).toNat = n ∧ n < 4294967296 := ⟨_, rfl, (crcSum (hd R ++ R.bytes)).isLt⟩
        have hU : U (crcSum (hd R ++ R.bytes)) = (n : Int) := by unfold U; rw [hn]
        rw [hU]
        have Hn := Lib.hid hn
        clear hn hU
        clear hbs
        go_wp2_with fail
        have Own10 := Lib.hid own10
        have Box10 := Lib.hid box10
        have Bel10 := Lib.hid bel10'
        clear own10 box10 bel10 bel10'
        have lb11 : w.heap.size + 1 ≤ wc.drew.heap.size := lb10
        have b1000 : R.body.size ≤ 1000 := by have := HM.out; simp only [Rec.may, decide_eq_true_eq] at this; omega
        refine any_begin (fun w' => w'.cell? ⟨w.heap.size, 5, none⟩ = some (.string R.body)) (by kernel_rfl) q5 (fun hS0 => ?_)
        refine any_take 0 (v := ?_) rfl rfl (by kernel_rfl) (by kernel_rfl) (by kernel_rfl) (fun _ _ _ h => h) hS0 ?_ ?_
        rotate_left
        · (intro w' hSw; (try dsimp only at hSw); go_simp; first | done | with_reducible rfl)
        try simp only [Act.put, List.setIfInBounds_toArray, List.set_cons_zero, List.set_cons_succ]
        refine any_take 1 (v := ?_) rfl rfl (by kernel_rfl) (by kernel_rfl) (by kernel_rfl) (fun _ _ _ h => h) hS0 ?_ ?_
        rotate_left
        · (intro w' hSw; (try dsimp only at hSw); go_simp; first | done | with_reducible rfl)
        try simp only [Act.put, List.setIfInBounds_toArray, List.set_cons_zero, List.set_cons_succ]
        refine any_take 5 (v := ?_) rfl rfl (by kernel_rfl) (by kernel_rfl) (by kernel_rfl) (fun _ _ _ h => h) hS0 ?_ ?_
        rotate_left
        · (intro w' hSw; (try dsimp only at hSw); go_simp; first | done | with_reducible rfl)
        try simp only [Act.put, List.setIfInBounds_toArray, List.set_cons_zero, List.set_cons_succ]
        refine any_take 2 (v := ?_) rfl rfl (by kernel_rfl) (by kernel_rfl) (by kernel_rfl) (fun _ _ _ h => h) hS0 ?_ ?_
        rotate_left
        · (intro w' hSw; (try dsimp only at hSw); go_simp; first | done | with_reducible rfl)
        try simp only [Act.put, List.setIfInBounds_toArray, List.set_cons_zero, List.set_cons_succ]
        refine any_take 6 (v := ?_) rfl rfl (by kernel_rfl) (by kernel_rfl) (by kernel_rfl) (fun _ _ _ h => h) hS0 ?_ ?_
        rotate_left
        · (intro w' hSw; (try dsimp only at hSw); go_simp; first | done | with_reducible rfl)
        try simp only [Act.put, List.setIfInBounds_toArray, List.set_cons_zero, List.set_cons_succ]
        refine any_one 3 (by kernel_rfl) rfl rfl (fun K1 hK1 => ?_)
        go_simp
        rw [wrap64_nat n (by omega)]
        refine (numPut4 n _ (w.heap.size + 1) (by omega) lb11).mono ?_
        rintro e w11 ⟨v11, rfl, own11, hb11'⟩
        have hb11 := ((Below.refl wc.heap.size wc).drew).trans hb11'
        have q11 := (hb11.cell (p := ⟨w.heap.size, 5, none⟩) lb10).trans q5
        obtain ⟨A11, c11, rfl, hc11, hm11, r11, _⟩ := own11.slice
        rw [put_len]
        have own11b := Own10.out.below hb11
        have hz11 := hb11.size
        clear hb11'
        refine hK1 _ _ q11 (fun hS1 => ?_)
        clear hK1 K1
        try simp only [Act.put, List.setIfInBounds_toArray, List.set_cons_zero, List.set_cons_succ]
        refine any_one 4 (by kernel_rfl) rfl rfl (fun K2 hK2 => ?_)
        refine wp_append_u8 _ _ rfl (w.heap.size + 1) (.slice A9 35 c9) (hd R) rfl own11b w11.heap.size A11 4 c11 (put n 4) rfl (put_len _ _).symm r11 (by rw [hd_len, put_len]; omega) (by omega) (fun v12 w12 own12 g12 => ?_)
        have q12 := (cell_grown g12 (by omega) (fun g hg => by have := (own11b.lt g hg).1; omega)).trans q11
        have hz12 := g12.size
        refine hK2 _ _ q12 (fun hS2 => ?_)
        clear hK2 K2
        try simp only [Act.put, List.setIfInBounds_toArray, List.set_cons_zero, List.set_cons_succ]
        refine any_one 7 (by kernel_rfl) rfl rfl (fun K3 hK3 => ?_)
        refine wp_append_str _ _ rfl (w.heap.size + 1) v12 _ rfl own12 R.body rfl (by rw [List.length_append, hd_len, put_len]; omega) (by omega) (fun v13 w13 own13 g13 => ?_)
        have q13 := (cell_grown g13 (by omega) (fun g hg => by have := (own12.lt g hg).1; omega)).trans q12
        refine hK3 _ _ q13 (fun hS3 => ?_)
        clear hK3 K3
        try simp only [Act.put, List.setIfInBounds_toArray, List.set_cons_zero, List.set_cons_succ]
        refine any_one 8 (by kernel_rfl) rfl rfl (fun K4 hK4 => ?_)
        go_simp
        refine hK4 _ _ q13 (fun hS4 => ?_)
        clear hK4 K4
        try simp only [Act.put, List.setIfInBounds_toArray, List.set_cons_zero, List.set_cons_succ]
        refine any_done (by kernel_rfl) (NoPanic.normal ?_)
        have hb13 : Below w.heap.size w w13 := (((Bel10.out.trans (hb11.mono (by omega))).grown g12 (by omega) (fun g hg => by have := (own11b.lt g hg).1; omega))).grown g13 (by omega) (fun g hg => by have := (own12.lt g hg).1; omega)
        have he := Lib.hid (show enc R = hd R ++ put n 4 ++ lst R.body from by
          unfold enc
          rw [if_pos HM.out, Hn.out]
          rfl)
        go_wp2_with fail
        go_ret
        refine ⟨v13, rfl, ?_, hb13⟩
        rw [he.out]
        exact own13.base (by omega)

theorem encode_any (R : Rec) (w : World) (ok : R.Ok) (hs : R.body.size ≤ maxLen) :
    Calls Try.prog 27 #[.agg R.cells] w fun e w' => ∃ v, e = .returned v ∧ OwnB w' w.heap.size v (enc R) ∧ Below w.heap.size w w' := by
  cases hm : R.may with
  | true => exact encode_yes R w ok hs hm
  | false => exact (encode_no R w hs hm).mono fun e w' ⟨he, hb⟩ => ⟨_, he, by rw [enc, if_neg (by simp [hm])]; exact OwnB.nil _ _, hb⟩

end Go.Proofs.Ytehhgfkbcjbciaa
