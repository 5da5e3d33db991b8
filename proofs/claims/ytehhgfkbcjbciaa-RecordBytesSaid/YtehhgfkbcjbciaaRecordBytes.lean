/- The walk of RecordBytes. -/
import Derived.Test.YtehhgfkbcjbciaaRecordEnds
namespace Go.Proofs.Ytehhgfkbcjbciaa
open Go.RowKit

theorem cells6R {w : World} {g : Nat} {R : Rec} (h : Blk w g 35 R.cells) : w.cell? ⟨g, 0, none⟩ = some (.int .i64 R.kind) ∧ w.cell? ⟨g, 1, none⟩ = some (.int .u32 (R.tenant : Int)) ∧ w.cell? ⟨g, 2, none⟩ = some (.int .u64 (R.epoch : Int)) ∧ w.cell? ⟨g, 3, none⟩ = some (.int .u64 (R.object : Int)) ∧ w.cell? ⟨g, 4, none⟩ = some (.int .u64 (R.seq : Int)) ∧ w.cell? ⟨g, 5, none⟩ = some (.string R.body) :=
  cells6 h

set_option maxRecDepth 100000 in
set_option maxHeartbeats 4000000 in
theorem recordBytes_walk (R : Rec) (more : Int) (w : World) (ok : R.Ok) (hs : R.body.size ≤ maxLen) (lo : -9223372036854775808 ≤ more) (hi : more ≤ 9223372036854775807) :
    Calls Try.prog 8 #[.agg R.cells, .int .i64 more] w fun e w' => e = .returned (.bool true) ∧ Below w.heap.size w w' := by
  have CU := Lib.hid (fun W => cut6_any R 300 W hs (by decide))
  have OK := Lib.hid ok
  clear hs ok
  unfold Rec.cells at *
  go_enter Try.func8, Try.ntmps8
  go_wp2_with fail
  refine (begun6_any _).mono ?_
  rintro e w1 ⟨rfl, hb1⟩
  have blk1 : Blk w1 w.heap.size 35 R.cells := Blk.below (Blk.new w _ _) hb1 (by simp)
  have bel1 : Below w.heap.size w w1 := ((Below.refl _ w).alloc (Nat.le_refl _) _).trans (hb1.mono (by simp))
  obtain ⟨q0, q1, q2, q3, q4, q5⟩ := cells6R blk1
  go_wp2_with fail
  refine (CU.out _).mono ?_
  rintro e w2 ⟨rfl, hb2⟩
  have blk2 := blk1.below hb2 blk1.lt
  have bel2 := bel1.trans (hb2.mono bel1.size)
  clear q0 q1 q2 q3 q4 q5 hb1 hb2 blk1 bel1 CU
  obtain ⟨q0, q1, q2, q3, q4, q5⟩ := cells6R blk2
  obtain ⟨f0, f1, f2, f3, f4, f5⟩ := free6 blk2
  go_upto_region 5 with fail
  obtain ⟨w3, hw3, blk3, bel3, _⟩ := stored6 blk2 bel2 (Nat.le_refl _) (.int .i64 R.kind) (.int .u32 (R.tenant : Int)) (.int .u64 (R.epoch : Int)) (.int .u64 (R.object : Int)) (.int .u64 (R.seq : Int)) (.string (cutS R.body 300))
  rw [← hw3]
  clear hw3 q0 q1 q2 q3 q4 q5 f0 f1 f2 f3 f4 f5 bel2 blk2
  by_cases h1 : 0 < more
  · by_cases h2 : more < 1100
    · obtain ⟨n, rfl⟩ := Int.eq_ofNat_of_zero_le (show 0 ≤ more by omega)
      have hn : n < 1100 := by omega
      obtain ⟨S, hS⟩ : ∃ S : ByteArray, ⟨(List.replicate n (0 : UInt8)).toArray⟩ = S := ⟨_, rfl⟩
      have hSs : S.size = n := by rw [← hS]; exact zeros_size n
      have HS := Lib.hid hS
      have HSS := Lib.hid hSs
      clear hS hSs
      have hz3 := bel3.size
      obtain ⟨q0, q1, q2, q3, q4, q5⟩ := cells6 blk3
      obtain ⟨f0, f1, f2, f3, f4, f5⟩ := free6 blk3
      have lt3 := blk3.lt
      go_upto_region 7 with (at_make; refine wpList_make_u8 rfl (.tmp 21) (.tmp 21) rfl w3.heap.size n n n rfl rfl rfl rfl (by omega) (Nat.le_refl _) ?_; intro w4 own4 g4; have r4 : RdB w4 w4.heap.size (some ⟨w3.heap.size, 0, none⟩) (List.replicate n 0) := own4.rd; have ks := run_str_of w4 w4.heap.size (some ⟨w3.heap.size, 0, none⟩) n n (List.replicate n 0) (by simp) r4; rw [HS.out] at ks; have blk4 := blk3.grown g4 (by simp); have bel4 := bel3.grown g4 bel3.size (fun _ h => by cases h); have k5 := blk4.cell 5; have f5' := blk4.frozen 5; clear q0 q1 q2 q3 q4 q5 f0 f1 f2 f3 f4 f5)
      have blk5 := blk4.store 5 (.string S)
      have bel5 := bel4.setCell (p := ⟨w.heap.size, 5, none⟩) (Nat.le_refl _) (.string S)
      have blkT : Blk (w4.setCell ⟨w.heap.size, 5, none⟩ (.string S)) w.heap.size 35 ({ R with body := S } : Rec).cells := blk5
      have okT : ({ R with body := S } : Rec).Ok := ⟨OK.out.lo, OK.out.hi, OK.out.tenant, OK.out.epoch, OK.out.object, OK.out.seq⟩
      have szT : ({ R with body := S } : Rec).body.size ≤ 1100 := by show S.size ≤ 1100; rw [HSS.out]; omega
      clear blk5 blk4 bel4 ks r4 own4 g4 k5 f5' HS HSS lt3 hz3 blk3 bel3
      generalize w4.setCell ⟨w.heap.size, 5, none⟩ (.string S) = wT at *
      generalize ({ R with body := S } : Rec) = RT at *
      have szM : RT.body.size ≤ maxLen := by unfold maxLen; omega
      have ET : ∀ W : World, Calls Try.prog 27 #[.agg #[.int .i64 RT.kind, .int .u32 (RT.tenant : Int), .int .u64 (RT.epoch : Int), .int .u64 (RT.object : Int), .int .u64 (RT.seq : Int), .string RT.body]] W fun e w' => ∃ v, e = .returned v ∧ OwnB w' W.heap.size v (enc RT) ∧ Below W.heap.size W w' := fun W => encode_any RT W okT szM
      have FT : ∀ W : World, Calls Try.prog 28 #[.agg #[.int .i64 RT.kind, .int .u32 (RT.tenant : Int), .int .u64 (RT.epoch : Int), .int .u64 (RT.object : Int), .int .u64 (RT.seq : Int), .string RT.body]] W fun e w' => ∃ v, e = .returned v ∧ OwnB w' W.heap.size v (enc RT) ∧ Below W.heap.size W w' := fun W => refEncode_any RT W okT szM
      have MT : ∀ W : World, Calls Try.prog 29 #[.agg #[.int .i64 RT.kind, .int .u32 (RT.tenant : Int), .int .u64 (RT.epoch : Int), .int .u64 (RT.object : Int), .int .u64 (RT.seq : Int), .string RT.body]] W fun e w' => e = .returned (.bool RT.may) ∧ Below W.heap.size W w' := fun W => may_any RT W szM
      have NT : ∀ W : World, Calls Try.prog 30 #[.agg #[.int .i64 RT.kind, .int .u32 (RT.tenant : Int), .int .u64 (RT.epoch : Int), .int .u64 (RT.object : Int), .int .u64 (RT.seq : Int), .string RT.body]] W fun e w' => e = .returned (.bool RT.may) ∧ Below W.heap.size W w' := fun W => refMay_any RT W szM
      have QT : ∀ W : World, Calls Try.prog 32 #[.agg #[.int .i64 RT.kind, .int .u32 (RT.tenant : Int), .int .u64 (RT.epoch : Int), .int .u64 (RT.object : Int), .int .u64 (RT.seq : Int), .string RT.body], .agg #[.int .i64 RT.kind, .int .u32 (RT.tenant : Int), .int .u64 (RT.epoch : Int), .int .u64 (RT.object : Int), .int .u64 (RT.seq : Int), .string RT.body]] W fun e w' => e = .returned (.bool true) ∧ Below W.heap.size W w' := fun W => by
        have h := eq_any RT RT W
        rwa [eqR_self] at h
      have ET' := Lib.hid ET
      have FT' := Lib.hid FT
      have MT' := Lib.hid MT
      have NT' := Lib.hid NT
      have QT' := Lib.hid QT
      have HT := Lib.hid okT.tenant
      clear ET FT MT NT QT okT
      obtain ⟨L, hL⟩ : ∃ L : Nat, (enc RT).length = L := ⟨_, rfl⟩
      have hLm : L ≤ 1200 := by
        rw [← hL]
        cases hm : RT.may with
        | true => rw [enc_len RT hm]; omega
        | false => rw [enc_no RT hm]; simp
      have HL := Lib.hid hL
      obtain ⟨q0, q1, q2, q3, q4, q5⟩ := cells6R blkT
      have ltT := blkT.lt
      go_wp2_with fail
      refine (ET'.out _).mono ?_
      rintro e w5 ⟨v5, rfl, own5, hb5⟩
      obtain ⟨A5, c5, rfl, hc5, hm5, r5, _⟩ := own5.slice
      rw [hL]
      have blkE := blkT.below hb5 ltT
      have belE := bel5.trans (hb5.mono bel5.size)
      have ltE := blkE.lt
      have R5 := Lib.hid r5
      have hc5' : L ≤ c5 := by omega
      clear own5 hb5 r5 bel5 blkT q0 q1 q2 q3 q4 q5 hc5 hL
      obtain ⟨q0, q1, q2, q3, q4, q5⟩ := cells6R blkE
      have kk : ∀ w', Below w5.heap.size w5 w' → (w'.cell? ⟨w.heap.size, 0, none⟩ = some (.int .i64 RT.kind) ∧ w'.cell? ⟨w.heap.size, 1, none⟩ = some (.int .u32 (RT.tenant : Int)) ∧ w'.cell? ⟨w.heap.size, 2, none⟩ = some (.int .u64 (RT.epoch : Int)) ∧ w'.cell? ⟨w.heap.size, 3, none⟩ = some (.int .u64 (RT.object : Int)) ∧ w'.cell? ⟨w.heap.size, 4, none⟩ = some (.int .u64 (RT.seq : Int)) ∧ w'.cell? ⟨w.heap.size, 5, none⟩ = some (.string RT.body)) ∧ Below w5.heap.size w5 w' := fun w' h =>
        ⟨⟨(h.cell (p := ⟨w.heap.size, 0, none⟩) ltE).trans q0, (h.cell (p := ⟨w.heap.size, 1, none⟩) ltE).trans q1, (h.cell (p := ⟨w.heap.size, 2, none⟩) ltE).trans q2, (h.cell (p := ⟨w.heap.size, 3, none⟩) ltE).trans q3, (h.cell (p := ⟨w.heap.size, 4, none⟩) ltE).trans q4, (h.cell (p := ⟨w.heap.size, 5, none⟩) ltE).trans q5⟩, h⟩
      have Kk := Lib.hid kk
      clear kk q0 q1 q2 q3 q4 q5
      go_wp2_with fail
      refine any_begin (fun w' => (w'.cell? ⟨w.heap.size, 0, none⟩ = some (.int .i64 RT.kind) ∧ w'.cell? ⟨w.heap.size, 1, none⟩ = some (.int .u32 (RT.tenant : Int)) ∧ w'.cell? ⟨w.heap.size, 2, none⟩ = some (.int .u64 (RT.epoch : Int)) ∧ w'.cell? ⟨w.heap.size, 3, none⟩ = some (.int .u64 (RT.object : Int)) ∧ w'.cell? ⟨w.heap.size, 4, none⟩ = some (.int .u64 (RT.seq : Int)) ∧ w'.cell? ⟨w.heap.size, 5, none⟩ = some (.string RT.body)) ∧ Below w5.heap.size w5 w') (by kernel_rfl) (Kk.out _ (Below.refl _ _).drew) (fun hS0 => ?_)
      refine any_take 0 (v := ?_) rfl rfl (by kernel_rfl) (by kernel_rfl) (by kernel_rfl) (fun _ _ _ h => h) hS0 ?_ ?_
      rotate_left
      · (intro w' hSw; (try dsimp only at hSw); go_simp; first | done | with_reducible rfl)
      try simp only [Act.put, List.setIfInBounds_toArray, List.set_cons_zero, List.set_cons_succ]
      refine any_take 1 (v := (.string ⟨(enc RT).toArray⟩)) rfl rfl (by kernel_rfl) (by kernel_rfl) (by kernel_rfl) (fun _ _ _ h => h) hS0 (fun w' hw => ?_) ?_
      · (have hrun := run_str_of w' w5.heap.size A5 c5 L (enc RT) HL.out (R5.out.below hw.2); clear hw; go_simp)
      try simp only [Act.put, List.setIfInBounds_toArray, List.set_cons_zero, List.set_cons_succ]
      refine any_take 2 (v := ?_) rfl rfl (by kernel_rfl) (by kernel_rfl) (by kernel_rfl) (fun _ _ _ h => h) hS0 ?_ ?_
      rotate_left
      · (intro w' hSw; (try dsimp only at hSw); go_simp; first | done | with_reducible rfl)
      try simp only [Act.put, List.setIfInBounds_toArray, List.set_cons_zero, List.set_cons_succ]
      refine any_one 3 (by kernel_rfl) rfl rfl (fun K4 hK4 => ?_)
      go_simp
      refine (FT'.out _).mono ?_
      rintro e w6 ⟨v6, rfl, own6, hb6⟩
      have b56 : Below w5.heap.size w5 w6 := (Below.refl _ w5).drew.trans hb6
      obtain ⟨A6, c6, rfl, _, _, r6, _⟩ := own6.slice
      rw [HL.out]
      refine hK4 _ _ (Kk.out _ b56) (fun hS4 => ?_)
      clear hK4 K4
      try simp only [Act.put, List.setIfInBounds_toArray, List.set_cons_zero, List.set_cons_succ]
      refine any_one 4 (by kernel_rfl) rfl rfl (fun K5 hK5 => ?_)
      have ks := run_str_of w6 w6.heap.size A6 c6 L (enc RT) HL.out r6
      go_simp
      refine hK5 _ _ (Kk.out _ b56) (fun hS5 => ?_)
      clear hK5 K5
      try simp only [Act.put, List.setIfInBounds_toArray, List.set_cons_zero, List.set_cons_succ]
      clear ks r6 own6
      refine any_take 5 (v := ?_) rfl rfl (by kernel_rfl) (by kernel_rfl) (by kernel_rfl) (fun _ _ _ h => h) hS5 ?_ ?_
      rotate_left
      · (intro w' hSw; (try dsimp only at hSw); go_simp; first | done | with_reducible rfl)
      try simp only [Act.put, List.setIfInBounds_toArray, List.set_cons_zero, List.set_cons_succ]
      refine any_take 6 (v := ?_) rfl rfl (by kernel_rfl) (by kernel_rfl) (by kernel_rfl) (fun _ _ _ h => h) hS5 ?_ ?_
      rotate_left
      · (intro w' hSw; (try dsimp only at hSw); go_simp; first | done | with_reducible rfl)
      try simp only [Act.put, List.setIfInBounds_toArray, List.set_cons_zero, List.set_cons_succ]
      refine any_take 7 (v := ?_) rfl rfl (by kernel_rfl) (by kernel_rfl) (by kernel_rfl) (fun _ _ _ h => h) hS5 ?_ ?_
      rotate_left
      · (intro w' hSw; (try dsimp only at hSw); go_simp; first | done | with_reducible rfl)
      try simp only [Act.put, List.setIfInBounds_toArray, List.set_cons_zero, List.set_cons_succ]
      refine any_take 9 (v := ?_) rfl rfl (by kernel_rfl) (by kernel_rfl) (by kernel_rfl) (fun _ _ _ h => h) hS5 ?_ ?_
      rotate_left
      · (intro w' hSw; (try dsimp only at hSw); go_simp; first | done | with_reducible rfl)
      try simp only [Act.put, List.setIfInBounds_toArray, List.set_cons_zero, List.set_cons_succ]
      refine any_one 8 (by kernel_rfl) rfl rfl (fun K6 hK6 => ?_)
      go_simp
      refine (MT'.out _).mono ?_
      rintro e w7 ⟨rfl, hb7⟩
      have b57 := b56.trans (hb7.mono b56.size)
      refine hK6 _ _ (Kk.out _ b57) (fun hS6 => ?_)
      clear hK6 K6
      try simp only [Act.put, List.setIfInBounds_toArray, List.set_cons_zero, List.set_cons_succ]
      refine any_one 10 (by kernel_rfl) rfl rfl (fun K7 hK7 => ?_)
      go_simp
      refine (NT'.out _).mono ?_
      rintro e w8 ⟨rfl, hb8⟩
      have b58 := b57.trans (hb8.mono b57.size)
      refine hK7 _ _ (Kk.out _ b58) (fun hS7 => ?_)
      clear hK7 K7
      try simp only [Act.put, List.setIfInBounds_toArray, List.set_cons_zero, List.set_cons_succ]
      refine any_take 11 (v := ?_) rfl rfl (by kernel_rfl) (by kernel_rfl) (by kernel_rfl) (fun _ _ _ h => h) hS7 ?_ ?_
      rotate_left
      · (intro w' hSw; (try dsimp only at hSw); go_simp; first | done | with_reducible rfl)
      try simp only [Act.put, List.setIfInBounds_toArray, List.set_cons_zero, List.set_cons_succ]
      refine any_take 12 (v := ?_) rfl rfl (by kernel_rfl) (by kernel_rfl) (by kernel_rfl) (fun _ _ _ h => h) hS7 ?_ ?_
      rotate_left
      · (intro w' hSw; (try dsimp only at hSw); go_simp; first | done | with_reducible rfl)
      try simp only [Act.put, List.setIfInBounds_toArray, List.set_cons_zero, List.set_cons_succ]
      refine any_done (by kernel_rfl) (NoPanic.normal ?_)
      have blkF := blkE.below b58 ltE
      have belF := belE.trans (b58.mono belE.size)
      have R8 := Lib.hid (R5.out.below b58)
      have hz58 := b58.size
      clear hS0 hS4 hS5 hS6 hS7 b56 b57 hb6 hb7 hb8 Kk R5 blkE belE b58
      obtain ⟨q0, q1, q2, q3, q4, q5⟩ := cells6R blkF
      cases hm : RT.may with
      | true =>
        have hLe : L = 39 + RT.body.size := by rw [← HL.out, enc_len RT hm]
        have hL0 : ((L : Int) == 0) = false := by simp; omega
        have hL1 : 0 < L := by omega
        have hD : dec (enc RT) = (RT, L, 0) := by
          have := dec_enc RT hm HT.out []
          rwa [List.append_nil, ← hLe] at this
        have hx : (enc RT).length = L := HL.out
        have DT : ∀ W : World, RdB W W.heap.size A5 (enc RT) → Calls Try.prog 31 #[.slice A5 L c5] W fun e w' => e = .returned (.tuple #[.agg #[.int .i64 RT.kind, .int .u32 (RT.tenant : Int), .int .u64 (RT.epoch : Int), .int .u64 (RT.object : Int), .int .u64 (RT.seq : Int), .string RT.body], .int .i64 (L : Int), .int .i64 0]) ∧ Below W.heap.size W w' := fun W hr => by
          have h := decode_any A5 c5 (enc RT) W hr (by rw [hx]; unfold maxLen; omega) (by rw [hx]; exact hc5')
          rw [hx, hD] at h
          exact h
        have DT' := Lib.hid DT
        clear DT hD hx hLe hm
        go_wp2_with fail
        refine (DT'.out _ (Rd.mono R8.out (by first | exact hz58 | omega))).mono ?_
        rintro e w9 ⟨rfl, hb9⟩
        have blkG := blkF.below hb9 blkF.lt
        have belG := belF.trans (hb9.mono belF.size)
        have ltG := blkG.lt
        clear q0 q1 q2 q3 q4 q5 blkF belF hb9
        obtain ⟨q0, q1, q2, q3, q4, q5⟩ := cells6R blkG
        go_wp2_with fail
        refine (QT'.out _).mono ?_
        rintro e w10 ⟨rfl, hb10⟩
        go_wp2
        go_ret
        exact ⟨rfl, (belG.alloc belG.size _).trans (hb10.mono (by have := belG.size; simp; omega))⟩
      | false =>
        have hLe : L = 0 := by rw [← HL.out, enc_no RT hm]; rfl
        subst hLe
        have HM := Lib.hid hm
        clear hm
        go_wp2_with fail
        refine (MT'.out _).mono ?_
        rintro e w9 ⟨rfl, hb9⟩
        rw [HM.out]
        go_wp2
        go_ret
        exact ⟨rfl, belF.trans (hb9.mono belF.size)⟩
    · go_upto_region 7 with fail
      have blkT : Blk w3 w.heap.size 35 ({ R with body := cutS R.body 300 } : Rec).cells := blk3
      have okT : ({ R with body := cutS R.body 300 } : Rec).Ok := ⟨OK.out.lo, OK.out.hi, OK.out.tenant, OK.out.epoch, OK.out.object, OK.out.seq⟩
      have szT : ({ R with body := cutS R.body 300 } : Rec).body.size ≤ 1100 := Nat.le_trans (cutS_size _ _) (by omega)
      have bel5 := bel3
      clear blk3 bel3
      generalize w3 = wT at *
      generalize ({ R with body := cutS R.body 300 } : Rec) = RT at *
      have szM : RT.body.size ≤ maxLen := by unfold maxLen; omega
      have ET : ∀ W : World, Calls Try.prog 27 #[.agg #[.int .i64 RT.kind, .int .u32 (RT.tenant : Int), .int .u64 (RT.epoch : Int), .int .u64 (RT.object : Int), .int .u64 (RT.seq : Int), .string RT.body]] W fun e w' => ∃ v, e = .returned v ∧ OwnB w' W.heap.size v (enc RT) ∧ Below W.heap.size W w' := fun W => encode_any RT W okT szM
      have FT : ∀ W : World, Calls Try.prog 28 #[.agg #[.int .i64 RT.kind, .int .u32 (RT.tenant : Int), .int .u64 (RT.epoch : Int), .int .u64 (RT.object : Int), .int .u64 (RT.seq : Int), .string RT.body]] W fun e w' => ∃ v, e = .returned v ∧ OwnB w' W.heap.size v (enc RT) ∧ Below W.heap.size W w' := fun W => refEncode_any RT W okT szM
      have MT : ∀ W : World, Calls Try.prog 29 #[.agg #[.int .i64 RT.kind, .int .u32 (RT.tenant : Int), .int .u64 (RT.epoch : Int), .int .u64 (RT.object : Int), .int .u64 (RT.seq : Int), .string RT.body]] W fun e w' => e = .returned (.bool RT.may) ∧ Below W.heap.size W w' := fun W => may_any RT W szM
      have NT : ∀ W : World, Calls Try.prog 30 #[.agg #[.int .i64 RT.kind, .int .u32 (RT.tenant : Int), .int .u64 (RT.epoch : Int), .int .u64 (RT.object : Int), .int .u64 (RT.seq : Int), .string RT.body]] W fun e w' => e = .returned (.bool RT.may) ∧ Below W.heap.size W w' := fun W => refMay_any RT W szM
      have QT : ∀ W : World, Calls Try.prog 32 #[.agg #[.int .i64 RT.kind, .int .u32 (RT.tenant : Int), .int .u64 (RT.epoch : Int), .int .u64 (RT.object : Int), .int .u64 (RT.seq : Int), .string RT.body], .agg #[.int .i64 RT.kind, .int .u32 (RT.tenant : Int), .int .u64 (RT.epoch : Int), .int .u64 (RT.object : Int), .int .u64 (RT.seq : Int), .string RT.body]] W fun e w' => e = .returned (.bool true) ∧ Below W.heap.size W w' := fun W => by
        have h := eq_any RT RT W
        rwa [eqR_self] at h
      have ET' := Lib.hid ET
      have FT' := Lib.hid FT
      have MT' := Lib.hid MT
      have NT' := Lib.hid NT
      have QT' := Lib.hid QT
      have HT := Lib.hid okT.tenant
      clear ET FT MT NT QT okT
      obtain ⟨L, hL⟩ : ∃ L : Nat, (enc RT).length = L := ⟨_, rfl⟩
      have hLm : L ≤ 1200 := by
        rw [← hL]
        cases hm : RT.may with
        | true => rw [enc_len RT hm]; omega
        | false => rw [enc_no RT hm]; simp
      have HL := Lib.hid hL
      obtain ⟨q0, q1, q2, q3, q4, q5⟩ := cells6R blkT
      have ltT := blkT.lt
      go_wp2_with fail
      refine (ET'.out _).mono ?_
      rintro e w5 ⟨v5, rfl, own5, hb5⟩
      obtain ⟨A5, c5, rfl, hc5, hm5, r5, _⟩ := own5.slice
      rw [hL]
      have blkE := blkT.below hb5 ltT
      have belE := bel5.trans (hb5.mono bel5.size)
      have ltE := blkE.lt
      have R5 := Lib.hid r5
      have hc5' : L ≤ c5 := by omega
      clear own5 hb5 r5 bel5 blkT q0 q1 q2 q3 q4 q5 hc5 hL
      obtain ⟨q0, q1, q2, q3, q4, q5⟩ := cells6R blkE
      have kk : ∀ w', Below w5.heap.size w5 w' → (w'.cell? ⟨w.heap.size, 0, none⟩ = some (.int .i64 RT.kind) ∧ w'.cell? ⟨w.heap.size, 1, none⟩ = some (.int .u32 (RT.tenant : Int)) ∧ w'.cell? ⟨w.heap.size, 2, none⟩ = some (.int .u64 (RT.epoch : Int)) ∧ w'.cell? ⟨w.heap.size, 3, none⟩ = some (.int .u64 (RT.object : Int)) ∧ w'.cell? ⟨w.heap.size, 4, none⟩ = some (.int .u64 (RT.seq : Int)) ∧ w'.cell? ⟨w.heap.size, 5, none⟩ = some (.string RT.body)) ∧ Below w5.heap.size w5 w' := fun w' h =>
        ⟨⟨(h.cell (p := ⟨w.heap.size, 0, none⟩) ltE).trans q0, (h.cell (p := ⟨w.heap.size, 1, none⟩) ltE).trans q1, (h.cell (p := ⟨w.heap.size, 2, none⟩) ltE).trans q2, (h.cell (p := ⟨w.heap.size, 3, none⟩) ltE).trans q3, (h.cell (p := ⟨w.heap.size, 4, none⟩) ltE).trans q4, (h.cell (p := ⟨w.heap.size, 5, none⟩) ltE).trans q5⟩, h⟩
      have Kk := Lib.hid kk
      clear kk q0 q1 q2 q3 q4 q5
      go_wp2_with fail
      refine any_begin (fun w' => (w'.cell? ⟨w.heap.size, 0, none⟩ = some (.int .i64 RT.kind) ∧ w'.cell? ⟨w.heap.size, 1, none⟩ = some (.int .u32 (RT.tenant : Int)) ∧ w'.cell? ⟨w.heap.size, 2, none⟩ = some (.int .u64 (RT.epoch : Int)) ∧ w'.cell? ⟨w.heap.size, 3, none⟩ = some (.int .u64 (RT.object : Int)) ∧ w'.cell? ⟨w.heap.size, 4, none⟩ = some (.int .u64 (RT.seq : Int)) ∧ w'.cell? ⟨w.heap.size, 5, none⟩ = some (.string RT.body)) ∧ Below w5.heap.size w5 w') (by kernel_rfl) (Kk.out _ (Below.refl _ _).drew) (fun hS0 => ?_)
      refine any_take 0 (v := ?_) rfl rfl (by kernel_rfl) (by kernel_rfl) (by kernel_rfl) (fun _ _ _ h => h) hS0 ?_ ?_
      rotate_left
      · (intro w' hSw; (try dsimp only at hSw); go_simp; first | done | with_reducible rfl)
      try simp only [Act.put, List.setIfInBounds_toArray, List.set_cons_zero, List.set_cons_succ]
      refine any_take 1 (v := (.string ⟨(enc RT).toArray⟩)) rfl rfl (by kernel_rfl) (by kernel_rfl) (by kernel_rfl) (fun _ _ _ h => h) hS0 (fun w' hw => ?_) ?_
      · (have hrun := run_str_of w' w5.heap.size A5 c5 L (enc RT) HL.out (R5.out.below hw.2); clear hw; go_simp)
      try simp only [Act.put, List.setIfInBounds_toArray, List.set_cons_zero, List.set_cons_succ]
      refine any_take 2 (v := ?_) rfl rfl (by kernel_rfl) (by kernel_rfl) (by kernel_rfl) (fun _ _ _ h => h) hS0 ?_ ?_
      rotate_left
      · (intro w' hSw; (try dsimp only at hSw); go_simp; first | done | with_reducible rfl)
      try simp only [Act.put, List.setIfInBounds_toArray, List.set_cons_zero, List.set_cons_succ]
      refine any_one 3 (by kernel_rfl) rfl rfl (fun K4 hK4 => ?_)
      go_simp
      refine (FT'.out _).mono ?_
      rintro e w6 ⟨v6, rfl, own6, hb6⟩
      have b56 : Below w5.heap.size w5 w6 := (Below.refl _ w5).drew.trans hb6
      obtain ⟨A6, c6, rfl, _, _, r6, _⟩ := own6.slice
      rw [HL.out]
      refine hK4 _ _ (Kk.out _ b56) (fun hS4 => ?_)
      clear hK4 K4
      try simp only [Act.put, List.setIfInBounds_toArray, List.set_cons_zero, List.set_cons_succ]
      refine any_one 4 (by kernel_rfl) rfl rfl (fun K5 hK5 => ?_)
      have ks := run_str_of w6 w6.heap.size A6 c6 L (enc RT) HL.out r6
      go_simp
      refine hK5 _ _ (Kk.out _ b56) (fun hS5 => ?_)
      clear hK5 K5
      try simp only [Act.put, List.setIfInBounds_toArray, List.set_cons_zero, List.set_cons_succ]
      clear ks r6 own6
      refine any_take 5 (v := ?_) rfl rfl (by kernel_rfl) (by kernel_rfl) (by kernel_rfl) (fun _ _ _ h => h) hS5 ?_ ?_
      rotate_left
      · (intro w' hSw; (try dsimp only at hSw); go_simp; first | done | with_reducible rfl)
      try simp only [Act.put, List.setIfInBounds_toArray, List.set_cons_zero, List.set_cons_succ]
      refine any_take 6 (v := ?_) rfl rfl (by kernel_rfl) (by kernel_rfl) (by kernel_rfl) (fun _ _ _ h => h) hS5 ?_ ?_
      rotate_left
      · (intro w' hSw; (try dsimp only at hSw); go_simp; first | done | with_reducible rfl)
      try simp only [Act.put, List.setIfInBounds_toArray, List.set_cons_zero, List.set_cons_succ]
      refine any_take 7 (v := ?_) rfl rfl (by kernel_rfl) (by kernel_rfl) (by kernel_rfl) (fun _ _ _ h => h) hS5 ?_ ?_
      rotate_left
      · (intro w' hSw; (try dsimp only at hSw); go_simp; first | done | with_reducible rfl)
      try simp only [Act.put, List.setIfInBounds_toArray, List.set_cons_zero, List.set_cons_succ]
      refine any_take 9 (v := ?_) rfl rfl (by kernel_rfl) (by kernel_rfl) (by kernel_rfl) (fun _ _ _ h => h) hS5 ?_ ?_
      rotate_left
      · (intro w' hSw; (try dsimp only at hSw); go_simp; first | done | with_reducible rfl)
      try simp only [Act.put, List.setIfInBounds_toArray, List.set_cons_zero, List.set_cons_succ]
      refine any_one 8 (by kernel_rfl) rfl rfl (fun K6 hK6 => ?_)
      go_simp
      refine (MT'.out _).mono ?_
      rintro e w7 ⟨rfl, hb7⟩
      have b57 := b56.trans (hb7.mono b56.size)
      refine hK6 _ _ (Kk.out _ b57) (fun hS6 => ?_)
      clear hK6 K6
      try simp only [Act.put, List.setIfInBounds_toArray, List.set_cons_zero, List.set_cons_succ]
      refine any_one 10 (by kernel_rfl) rfl rfl (fun K7 hK7 => ?_)
      go_simp
      refine (NT'.out _).mono ?_
      rintro e w8 ⟨rfl, hb8⟩
      have b58 := b57.trans (hb8.mono b57.size)
      refine hK7 _ _ (Kk.out _ b58) (fun hS7 => ?_)
      clear hK7 K7
      try simp only [Act.put, List.setIfInBounds_toArray, List.set_cons_zero, List.set_cons_succ]
      refine any_take 11 (v := ?_) rfl rfl (by kernel_rfl) (by kernel_rfl) (by kernel_rfl) (fun _ _ _ h => h) hS7 ?_ ?_
      rotate_left
      · (intro w' hSw; (try dsimp only at hSw); go_simp; first | done | with_reducible rfl)
      try simp only [Act.put, List.setIfInBounds_toArray, List.set_cons_zero, List.set_cons_succ]
      refine any_take 12 (v := ?_) rfl rfl (by kernel_rfl) (by kernel_rfl) (by kernel_rfl) (fun _ _ _ h => h) hS7 ?_ ?_
      rotate_left
      · (intro w' hSw; (try dsimp only at hSw); go_simp; first | done | with_reducible rfl)
      try simp only [Act.put, List.setIfInBounds_toArray, List.set_cons_zero, List.set_cons_succ]
      refine any_done (by kernel_rfl) (NoPanic.normal ?_)
      have blkF := blkE.below b58 ltE
      have belF := belE.trans (b58.mono belE.size)
      have R8 := Lib.hid (R5.out.below b58)
      have hz58 := b58.size
      clear hS0 hS4 hS5 hS6 hS7 b56 b57 hb6 hb7 hb8 Kk R5 blkE belE b58
      obtain ⟨q0, q1, q2, q3, q4, q5⟩ := cells6R blkF
      cases hm : RT.may with
      | true =>
        have hLe : L = 39 + RT.body.size := by rw [← HL.out, enc_len RT hm]
        have hL0 : ((L : Int) == 0) = false := by simp; omega
        have hL1 : 0 < L := by omega
        have hD : dec (enc RT) = (RT, L, 0) := by
          have := dec_enc RT hm HT.out []
          rwa [List.append_nil, ← hLe] at this
        have hx : (enc RT).length = L := HL.out
        have DT : ∀ W : World, RdB W W.heap.size A5 (enc RT) → Calls Try.prog 31 #[.slice A5 L c5] W fun e w' => e = .returned (.tuple #[.agg #[.int .i64 RT.kind, .int .u32 (RT.tenant : Int), .int .u64 (RT.epoch : Int), .int .u64 (RT.object : Int), .int .u64 (RT.seq : Int), .string RT.body], .int .i64 (L : Int), .int .i64 0]) ∧ Below W.heap.size W w' := fun W hr => by
          have h := decode_any A5 c5 (enc RT) W hr (by rw [hx]; unfold maxLen; omega) (by rw [hx]; exact hc5')
          rw [hx, hD] at h
          exact h
        have DT' := Lib.hid DT
        clear DT hD hx hLe hm
        go_wp2_with fail
        refine (DT'.out _ (Rd.mono R8.out (by first | exact hz58 | omega))).mono ?_
        rintro e w9 ⟨rfl, hb9⟩
        have blkG := blkF.below hb9 blkF.lt
        have belG := belF.trans (hb9.mono belF.size)
        have ltG := blkG.lt
        clear q0 q1 q2 q3 q4 q5 blkF belF hb9
        obtain ⟨q0, q1, q2, q3, q4, q5⟩ := cells6R blkG
        go_wp2_with fail
        refine (QT'.out _).mono ?_
        rintro e w10 ⟨rfl, hb10⟩
        go_wp2
        go_ret
        exact ⟨rfl, (belG.alloc belG.size _).trans (hb10.mono (by have := belG.size; simp; omega))⟩
      | false =>
        have hLe : L = 0 := by rw [← HL.out, enc_no RT hm]; rfl
        subst hLe
        have HM := Lib.hid hm
        clear hm
        go_wp2_with fail
        refine (MT'.out _).mono ?_
        rintro e w9 ⟨rfl, hb9⟩
        rw [HM.out]
        go_wp2
        go_ret
        exact ⟨rfl, belF.trans (hb9.mono belF.size)⟩
  · go_upto_region 7 with fail
    have blkT : Blk w3 w.heap.size 35 ({ R with body := cutS R.body 300 } : Rec).cells := blk3
    have okT : ({ R with body := cutS R.body 300 } : Rec).Ok := ⟨OK.out.lo, OK.out.hi, OK.out.tenant, OK.out.epoch, OK.out.object, OK.out.seq⟩
    have szT : ({ R with body := cutS R.body 300 } : Rec).body.size ≤ 1100 := Nat.le_trans (cutS_size _ _) (by omega)
    have bel5 := bel3
    clear blk3 bel3
    generalize w3 = wT at *
    generalize ({ R with body := cutS R.body 300 } : Rec) = RT at *
    have szM : RT.body.size ≤ maxLen := by unfold maxLen; omega
    have ET : ∀ W : World, Calls Try.prog 27 #[.agg #[.int .i64 RT.kind, .int .u32 (RT.tenant : Int), .int .u64 (RT.epoch : Int), .int .u64 (RT.object : Int), .int .u64 (RT.seq : Int), .string RT.body]] W fun e w' => ∃ v, e = .returned v ∧ OwnB w' W.heap.size v (enc RT) ∧ Below W.heap.size W w' := fun W => encode_any RT W okT szM
    have FT : ∀ W : World, Calls Try.prog 28 #[.agg #[.int .i64 RT.kind, .int .u32 (RT.tenant : Int), .int .u64 (RT.epoch : Int), .int .u64 (RT.object : Int), .int .u64 (RT.seq : Int), .string RT.body]] W fun e w' => ∃ v, e = .returned v ∧ OwnB w' W.heap.size v (enc RT) ∧ Below W.heap.size W w' := fun W => refEncode_any RT W okT szM
    have MT : ∀ W : World, Calls Try.prog 29 #[.agg #[.int .i64 RT.kind, .int .u32 (RT.tenant : Int), .int .u64 (RT.epoch : Int), .int .u64 (RT.object : Int), .int .u64 (RT.seq : Int), .string RT.body]] W fun e w' => e = .returned (.bool RT.may) ∧ Below W.heap.size W w' := fun W => may_any RT W szM
    have NT : ∀ W : World, Calls Try.prog 30 #[.agg #[.int .i64 RT.kind, .int .u32 (RT.tenant : Int), .int .u64 (RT.epoch : Int), .int .u64 (RT.object : Int), .int .u64 (RT.seq : Int), .string RT.body]] W fun e w' => e = .returned (.bool RT.may) ∧ Below W.heap.size W w' := fun W => refMay_any RT W szM
    have QT : ∀ W : World, Calls Try.prog 32 #[.agg #[.int .i64 RT.kind, .int .u32 (RT.tenant : Int), .int .u64 (RT.epoch : Int), .int .u64 (RT.object : Int), .int .u64 (RT.seq : Int), .string RT.body], .agg #[.int .i64 RT.kind, .int .u32 (RT.tenant : Int), .int .u64 (RT.epoch : Int), .int .u64 (RT.object : Int), .int .u64 (RT.seq : Int), .string RT.body]] W fun e w' => e = .returned (.bool true) ∧ Below W.heap.size W w' := fun W => by
      have h := eq_any RT RT W
      rwa [eqR_self] at h
    have ET' := Lib.hid ET
    have FT' := Lib.hid FT
    have MT' := Lib.hid MT
    have NT' := Lib.hid NT
    have QT' := Lib.hid QT
    have HT := Lib.hid okT.tenant
    clear ET FT MT NT QT okT
    obtain ⟨L, hL⟩ : ∃ L : Nat, (enc RT).length = L := ⟨_, rfl⟩
    have hLm : L ≤ 1200 := by
      rw [← hL]
      cases hm : RT.may with
      | true => rw [enc_len RT hm]; omega
      | false => rw [enc_no RT hm]; simp
    have HL := Lib.hid hL
    obtain ⟨q0, q1, q2, q3, q4, q5⟩ := cells6R blkT
    have ltT := blkT.lt
    go_wp2_with fail
    refine (ET'.out _).mono ?_
    rintro e w5 ⟨v5, rfl, own5, hb5⟩
    obtain ⟨A5, c5, rfl, hc5, hm5, r5, _⟩ := own5.slice
    rw [hL]
    have blkE := blkT.below hb5 ltT
    have belE := bel5.trans (hb5.mono bel5.size)
    have ltE := blkE.lt
    have R5 := Lib.hid r5
    have hc5' : L ≤ c5 := by omega
    clear own5 hb5 r5 bel5 blkT q0 q1 q2 q3 q4 q5 hc5 hL
    obtain ⟨q0, q1, q2, q3, q4, q5⟩ := cells6R blkE
    have kk : ∀ w', Below w5.heap.size w5 w' → (w'.cell? ⟨w.heap.size, 0, none⟩ = some (.int .i64 RT.kind) ∧ w'.cell? ⟨w.heap.size, 1, none⟩ = some (.int .u32 (RT.tenant : Int)) ∧ w'.cell? ⟨w.heap.size, 2, none⟩ = some (.int .u64 (RT.epoch : Int)) ∧ w'.cell? ⟨w.heap.size, 3, none⟩ = some (.int .u64 (RT.object : Int)) ∧ w'.cell? ⟨w.heap.size, 4, none⟩ = some (.int .u64 (RT.seq : Int)) ∧ w'.cell? ⟨w.heap.size, 5, none⟩ = some (.string RT.body)) ∧ Below w5.heap.size w5 w' := fun w' h =>
      ⟨⟨(h.cell (p := ⟨w.heap.size, 0, none⟩) ltE).trans q0, (h.cell (p := ⟨w.heap.size, 1, none⟩) ltE).trans q1, (h.cell (p := ⟨w.heap.size, 2, none⟩) ltE).trans q2, (h.cell (p := ⟨w.heap.size, 3, none⟩) ltE).trans q3, (h.cell (p := ⟨w.heap.size, 4, none⟩) ltE).trans q4, (h.cell (p := ⟨w.heap.size, 5, none⟩) ltE).trans q5⟩, h⟩
    have Kk := Lib.hid kk
    clear kk q0 q1 q2 q3 q4 q5
    go_wp2_with fail
    refine any_begin (fun w' => (w'.cell? ⟨w.heap.size, 0, none⟩ = some (.int .i64 RT.kind) ∧ w'.cell? ⟨w.heap.size, 1, none⟩ = some (.int .u32 (RT.tenant : Int)) ∧ w'.cell? ⟨w.heap.size, 2, none⟩ = some (.int .u64 (RT.epoch : Int)) ∧ w'.cell? ⟨w.heap.size, 3, none⟩ = some (.int .u64 (RT.object : Int)) ∧ w'.cell? ⟨w.heap.size, 4, none⟩ = some (.int .u64 (RT.seq : Int)) ∧ w'.cell? ⟨w.heap.size, 5, none⟩ = some (.string RT.body)) ∧ Below w5.heap.size w5 w') (by kernel_rfl) (Kk.out _ (Below.refl _ _).drew) (fun hS0 => ?_)
    refine any_take 0 (v := ?_) rfl rfl (by kernel_rfl) (by kernel_rfl) (by kernel_rfl) (fun _ _ _ h => h) hS0 ?_ ?_
    rotate_left
    · (intro w' hSw; (try dsimp only at hSw); go_simp; first | done | with_reducible rfl)
    try simp only [Act.put, List.setIfInBounds_toArray, List.set_cons_zero, List.set_cons_succ]
    refine any_take 1 (v := (.string ⟨(enc RT).toArray⟩)) rfl rfl (by kernel_rfl) (by kernel_rfl) (by kernel_rfl) (fun _ _ _ h => h) hS0 (fun w' hw => ?_) ?_
    · (have hrun := run_str_of w' w5.heap.size A5 c5 L (enc RT) HL.out (R5.out.below hw.2); clear hw; go_simp)
    try simp only [Act.put, List.setIfInBounds_toArray, List.set_cons_zero, List.set_cons_succ]
    refine any_take 2 (v := ?_) rfl rfl (by kernel_rfl) (by kernel_rfl) (by kernel_rfl) (fun _ _ _ h => h) hS0 ?_ ?_
    rotate_left
    · (intro w' hSw; (try dsimp only at hSw); go_simp; first | done | with_reducible rfl)
    try simp only [Act.put, List.setIfInBounds_toArray, List.set_cons_zero, List.set_cons_succ]
    refine any_one 3 (by kernel_rfl) rfl rfl (fun K4 hK4 => ?_)
    go_simp
    refine (FT'.out _).mono ?_
    rintro e w6 ⟨v6, rfl, own6, hb6⟩
    have b56 : Below w5.heap.size w5 w6 := (Below.refl _ w5).drew.trans hb6
    obtain ⟨A6, c6, rfl, _, _, r6, _⟩ := own6.slice
    rw [HL.out]
    refine hK4 _ _ (Kk.out _ b56) (fun hS4 => ?_)
    clear hK4 K4
    try simp only [Act.put, List.setIfInBounds_toArray, List.set_cons_zero, List.set_cons_succ]
    refine any_one 4 (by kernel_rfl) rfl rfl (fun K5 hK5 => ?_)
    have ks := run_str_of w6 w6.heap.size A6 c6 L (enc RT) HL.out r6
    go_simp
    refine hK5 _ _ (Kk.out _ b56) (fun hS5 => ?_)
    clear hK5 K5
    try simp only [Act.put, List.setIfInBounds_toArray, List.set_cons_zero, List.set_cons_succ]
    clear ks r6 own6
    refine any_take 5 (v := ?_) rfl rfl (by kernel_rfl) (by kernel_rfl) (by kernel_rfl) (fun _ _ _ h => h) hS5 ?_ ?_
    rotate_left
    · (intro w' hSw; (try dsimp only at hSw); go_simp; first | done | with_reducible rfl)
    try simp only [Act.put, List.setIfInBounds_toArray, List.set_cons_zero, List.set_cons_succ]
    refine any_take 6 (v := ?_) rfl rfl (by kernel_rfl) (by kernel_rfl) (by kernel_rfl) (fun _ _ _ h => h) hS5 ?_ ?_
    rotate_left
    · (intro w' hSw; (try dsimp only at hSw); go_simp; first | done | with_reducible rfl)
    try simp only [Act.put, List.setIfInBounds_toArray, List.set_cons_zero, List.set_cons_succ]
    refine any_take 7 (v := ?_) rfl rfl (by kernel_rfl) (by kernel_rfl) (by kernel_rfl) (fun _ _ _ h => h) hS5 ?_ ?_
    rotate_left
    · (intro w' hSw; (try dsimp only at hSw); go_simp; first | done | with_reducible rfl)
    try simp only [Act.put, List.setIfInBounds_toArray, List.set_cons_zero, List.set_cons_succ]
    refine any_take 9 (v := ?_) rfl rfl (by kernel_rfl) (by kernel_rfl) (by kernel_rfl) (fun _ _ _ h => h) hS5 ?_ ?_
    rotate_left
    · (intro w' hSw; (try dsimp only at hSw); go_simp; first | done | with_reducible rfl)
    try simp only [Act.put, List.setIfInBounds_toArray, List.set_cons_zero, List.set_cons_succ]
    refine any_one 8 (by kernel_rfl) rfl rfl (fun K6 hK6 => ?_)
    go_simp
    refine (MT'.out _).mono ?_
    rintro e w7 ⟨rfl, hb7⟩
    have b57 := b56.trans (hb7.mono b56.size)
    refine hK6 _ _ (Kk.out _ b57) (fun hS6 => ?_)
    clear hK6 K6
    try simp only [Act.put, List.setIfInBounds_toArray, List.set_cons_zero, List.set_cons_succ]
    refine any_one 10 (by kernel_rfl) rfl rfl (fun K7 hK7 => ?_)
    go_simp
    refine (NT'.out _).mono ?_
    rintro e w8 ⟨rfl, hb8⟩
    have b58 := b57.trans (hb8.mono b57.size)
    refine hK7 _ _ (Kk.out _ b58) (fun hS7 => ?_)
    clear hK7 K7
    try simp only [Act.put, List.setIfInBounds_toArray, List.set_cons_zero, List.set_cons_succ]
    refine any_take 11 (v := ?_) rfl rfl (by kernel_rfl) (by kernel_rfl) (by kernel_rfl) (fun _ _ _ h => h) hS7 ?_ ?_
    rotate_left
    · (intro w' hSw; (try dsimp only at hSw); go_simp; first | done | with_reducible rfl)
    try simp only [Act.put, List.setIfInBounds_toArray, List.set_cons_zero, List.set_cons_succ]
    refine any_take 12 (v := ?_) rfl rfl (by kernel_rfl) (by kernel_rfl) (by kernel_rfl) (fun _ _ _ h => h) hS7 ?_ ?_
    rotate_left
    · (intro w' hSw; (try dsimp only at hSw); go_simp; first | done | with_reducible rfl)
    try simp only [Act.put, List.setIfInBounds_toArray, List.set_cons_zero, List.set_cons_succ]
    refine any_done (by kernel_rfl) (NoPanic.normal ?_)
    have blkF := blkE.below b58 ltE
    have belF := belE.trans (b58.mono belE.size)
    have R8 := Lib.hid (R5.out.below b58)
    have hz58 := b58.size
    clear hS0 hS4 hS5 hS6 hS7 b56 b57 hb6 hb7 hb8 Kk R5 blkE belE b58
    obtain ⟨q0, q1, q2, q3, q4, q5⟩ := cells6R blkF
    cases hm : RT.may with
    | true =>
      have hLe : L = 39 + RT.body.size := by rw [← HL.out, enc_len RT hm]
      have hL0 : ((L : Int) == 0) = false := by simp; omega
      have hL1 : 0 < L := by omega
      have hD : dec (enc RT) = (RT, L, 0) := by
        have := dec_enc RT hm HT.out []
        rwa [List.append_nil, ← hLe] at this
      have hx : (enc RT).length = L := HL.out
      have DT : ∀ W : World, RdB W W.heap.size A5 (enc RT) → Calls Try.prog 31 #[.slice A5 L c5] W fun e w' => e = .returned (.tuple #[.agg #[.int .i64 RT.kind, .int .u32 (RT.tenant : Int), .int .u64 (RT.epoch : Int), .int .u64 (RT.object : Int), .int .u64 (RT.seq : Int), .string RT.body], .int .i64 (L : Int), .int .i64 0]) ∧ Below W.heap.size W w' := fun W hr => by
        have h := decode_any A5 c5 (enc RT) W hr (by rw [hx]; unfold maxLen; omega) (by rw [hx]; exact hc5')
        rw [hx, hD] at h
        exact h
      have DT' := Lib.hid DT
      clear DT hD hx hLe hm
      go_wp2_with fail
      refine (DT'.out _ (Rd.mono R8.out (by first | exact hz58 | omega))).mono ?_
      rintro e w9 ⟨rfl, hb9⟩
      have blkG := blkF.below hb9 blkF.lt
      have belG := belF.trans (hb9.mono belF.size)
      have ltG := blkG.lt
      clear q0 q1 q2 q3 q4 q5 blkF belF hb9
      obtain ⟨q0, q1, q2, q3, q4, q5⟩ := cells6R blkG
      go_wp2_with fail
      refine (QT'.out _).mono ?_
      rintro e w10 ⟨rfl, hb10⟩
      go_wp2
      go_ret
      exact ⟨rfl, (belG.alloc belG.size _).trans (hb10.mono (by have := belG.size; simp; omega))⟩
    | false =>
      have hLe : L = 0 := by rw [← HL.out, enc_no RT hm]; rfl
      subst hLe
      have HM := Lib.hid hm
      clear hm
      go_wp2_with fail
      refine (MT'.out _).mono ?_
      rintro e w9 ⟨rfl, hb9⟩
      rw [HM.out]
      go_wp2
      go_ret
      exact ⟨rfl, belF.trans (hb9.mono belF.size)⟩
end Go.Proofs.Ytehhgfkbcjbciaa
