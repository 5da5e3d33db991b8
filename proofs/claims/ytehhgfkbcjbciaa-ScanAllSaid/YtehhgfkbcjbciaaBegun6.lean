/- stillroomlaw6.begun. -/
import Derived.Test.YtehhgfkbcjbciaaRound
import Derived.Test.YtehhgfkbcjbciaaEnc
namespace Go.Proofs.Ytehhgfkbcjbciaa
open Go.RowKit

def rec0 : Rec := ⟨2, 2, 0, 0, 0, ⟨#[97, 98]⟩⟩

theorem rec0_may : rec0.may = true := by decide
theorem rec0_ok : rec0.Ok := ⟨by decide, by decide, by decide, by decide, by decide, by decide⟩
theorem enc0_len : (enc rec0).length = 41 := enc_len rec0 rec0_may

theorem beg_of (l : List UInt8) (h : 3 ≤ l.length) (h0 : l.getD 0 0 = 83) (h1 : l.getD 1 0 = 82) (h2 : 1 ≤ (l.getD 2 0).toNat) (h3 : (l.getD 2 0).toNat ≤ 4) : beg l = true := by
  unfold beg
  rw [decide_eq_true (fun i hi => by
    rcases (show i = 0 ∨ i = 1 by omega) with rfl | rfl
    · rw [h0]; rfl
    · rw [h1]; rfl), decide_eq_true h2, decide_eq_true h3]
  simp

theorem dec0 : dec (enc rec0) = (rec0, 41, 0) := by
  have := dec_enc rec0 rec0_may (by decide) []
  rwa [List.append_nil] at this

theorem dec0_cut : dec ((enc rec0).take 10) = (zeroRec, 0, 11) := by
  have hl : ((enc rec0).take 10).length = 10 := by rw [List.length_take, enc0_len]; rfl
  refine dec_more _ (beg_of _ (by omega) ?_ ?_ ?_ ?_) (by omega)
  all_goals rw [enc_eq rec0 rec0_may]
  · rfl
  · rfl
  · decide
  · decide

set_option maxRecDepth 100000 in
set_option maxHeartbeats 1000000 in
theorem begun6_any (w : World) :
    Calls Try.prog 25 #[] w fun e w' => e = .returned (.bool true) ∧ Below w.heap.size w w' := by
  have EA : ∀ W : World, Calls Try.prog 27 #[.agg #[.int .i64 2, .int .u32 2, .int .u64 0, .int .u64 0, .int .u64 0, .string ⟨#[97, 98]⟩]] W fun e w' => ∃ v, e = .returned v ∧ OwnB w' W.heap.size v (enc rec0) ∧ Below W.heap.size W w' := fun W => encode_any rec0 W rec0_ok (by decide)
  have EA' := Lib.hid EA
  clear EA
  go_enter Try.func25, Try.ntmps25
  go_wp2_with fail
  refine (EA'.out _).mono ?_
  rintro e w1 ⟨v1, rfl, own1, hb1⟩
  obtain ⟨A1, c1, rfl, hc1, hm1, r1, _⟩ := own1.slice
  rw [enc0_len] at hc1 ⊢
  have hp10 : (10 : Int) ≤ (c1 : Int) := by omega
  have hlt := hb1.size
  have D1 : ∀ W : World, RdB W W.heap.size A1 (enc rec0) → Calls Try.prog 31 #[.slice A1 41 c1] W fun e w' => e = .returned (.tuple #[.agg #[.int .i64 2, .int .u32 2, .int .u64 0, .int .u64 0, .int .u64 0, .string ⟨#[97, 98]⟩], .int .i64 41, .int .i64 0]) ∧ Below W.heap.size W w' := fun W hr => by
    have h := decode_any A1 c1 (enc rec0) W hr (by rw [enc0_len]; decide) (by rw [enc0_len]; exact hc1)
    rw [enc0_len, dec0] at h
    exact h
  have D2 : ∀ W : World, RdB W W.heap.size A1 (enc rec0) → Calls Try.prog 31 #[.slice A1 10 c1] W fun e w' => e = .returned (.tuple #[.agg #[.int .i64 0, .int .u32 0, .int .u64 0, .int .u64 0, .int .u64 0, .string ⟨#[]⟩], .int .i64 0, .int .i64 11]) ∧ Below W.heap.size W w' := fun W hr => by
    have hl : ((enc rec0).take 10).length = 10 := by rw [List.length_take, enc0_len]; rfl
    have h := decode_any A1 c1 ((enc rec0).take 10) W (hr.take 10) (by rw [hl]; decide) (by rw [hl]; omega)
    rw [hl, dec0_cut] at h
    exact h
  have D1' := Lib.hid D1
  have D2' := Lib.hid D2
  have R1 := Lib.hid r1
  clear D1 D2 r1 own1
  go_wp2_with fail
  refine (D1'.out _ R1.out).mono ?_
  rintro e w2 ⟨rfl, hb2⟩
  go_wp2_with fail
  have bel2 : Below w.heap.size w w2 := hb1.trans (hb2.mono hlt)
  have R2 : RdB (w2.alloc (.cells #[.int .i64 2, .int .u32 2, .int .u64 0, .int .u64 0, .int .u64 0, .string ⟨#[97, 98]⟩] 35)) (w2.heap.size + 1) A1 (enc rec0) := Rd.mono (((R1.out.below hb2).alloc hb2.size _)) (by have := hb2.size; omega)
  have blk2 : Blk (w2.alloc (.cells #[.int .i64 2, .int .u32 2, .int .u64 0, .int .u64 0, .int .u64 0, .string ⟨#[97, 98]⟩] 35)) w2.heap.size 35 _ := Blk.new w2 _ _
  have bel3 := bel2.alloc bel2.size (.cells #[.int .i64 2, .int .u32 2, .int .u64 0, .int .u64 0, .int .u64 0, .string ⟨#[97, 98]⟩] 35)
  refine (D2'.out _ (by simpa using R2)).mono ?_
  rintro e w3 ⟨rfl, hb3⟩
  have blk3 := blk2.below hb3 (by simp)
  have bel4 := bel3.trans (hb3.mono bel3.size)
  clear blk2 bel3 R2 hb3
  obtain ⟨q0, q1, q2, q3, q4, q5⟩ := cells6 blk3
  have hz3 : w2.heap.size < w3.heap.size := blk3.lt
  go_wp2
  go_ret
  exact ⟨rfl, bel4.alloc bel4.size _⟩

end Go.Proofs.Ytehhgfkbcjbciaa
