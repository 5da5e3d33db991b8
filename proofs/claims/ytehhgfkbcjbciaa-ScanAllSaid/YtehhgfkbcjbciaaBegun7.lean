/- stillroomlaw7.begun. -/
import Derived.Test.YtehhgfkbcjbciaaEqAll
import Derived.Test.YtehhgfkbcjbciaaBegun6
namespace Go.Proofs.Ytehhgfkbcjbciaa
open Go.RowKit

def recx : Rec := ⟨2, 0, 0, 0, 0, ⟨#[120]⟩⟩
theorem recx_may : recx.may = true := by decide
theorem recx_ok : recx.Ok := ⟨by decide, by decide, by decide, by decide, by decide, by decide⟩
theorem encx_len : (enc recx).length = 40 := enc_len recx recx_may

def junk : List UInt8 := [106, 117, 110, 107, 83] ++ enc recx

theorem junk_len : junk.length = 45 := by unfold junk; rw [List.length_append, encx_len]; rfl

theorem dec_corrupt {l : List UInt8} (h : beg l = false) : dec l = (zeroRec, 0, 4) := by rw [dec, if_pos h]

theorem junk_miss (k : Nat) (hk : k < 5) : dec (junk.drop k) = (zeroRec, 0, 4) := by
  apply dec_corrupt
  have hl : (junk.drop k).length = 45 - k := by rw [List.length_drop, junk_len]
  have e : enc recx = 83 :: (enc recx).tail := by rw [enc_eq recx recx_may]; rfl
  rcases (show k = 0 ∨ k = 1 ∨ k = 2 ∨ k = 3 ∨ k = 4 by omega) with rfl | rfl | rfl | rfl | rfl
  · exact beg_false (k := 0) (by omega) (by unfold junk; simp)
  · exact beg_false (k := 0) (by omega) (by unfold junk; simp)
  · exact beg_false (k := 0) (by omega) (by unfold junk; simp)
  · exact beg_false (k := 0) (by omega) (by unfold junk; simp)
  · exact beg_false (k := 1) (by omega) (by unfold junk; rw [e]; simp)

theorem junk_hit : dec (junk.drop 5) = (recx, 40, 0) := by
  have h := dec_enc recx recx_may (by decide) []
  rw [List.append_nil] at h
  have e : junk.drop 5 = enc recx := rfl
  rw [e, h]
  rfl

theorem junk_all : allS junk 0 = [(5, recx)] := by
  have hl := junk_len
  have m : ∀ k, k < 5 → allS junk k = allS junk (k + 1) := fun k hk => allS_miss (by omega) (by rw [junk_miss k hk]; simp)
  rw [m 0 (by omega), m 1 (by omega), m 2 (by omega), m 3 (by omega), m 4 (by omega), allS_hit (by omega) (by rw [junk_hit]), junk_hit, allS_end (by rw [hl]; simp)]

theorem junk_front : frontS junk 0 = ([], 0) := frontS_miss (by rw [junk_miss 0 (by omega)]; simp)

set_option maxRecDepth 100000 in
set_option maxHeartbeats 2000000 in
theorem begun7_any (w : World) :
    Calls Try.prog 33 #[] w fun e w' => e = .returned (.bool true) ∧ Below w.heap.size w w' := by
  have EA : ∀ W : World, Calls Try.prog 28 #[.agg #[.int .i64 2, .int .u32 0, .int .u64 0, .int .u64 0, .int .u64 0, .string ⟨#[120]⟩]] W fun e w' => ∃ v, e = .returned v ∧ OwnB w' W.heap.size v (enc recx) ∧ Below W.heap.size W w' := fun W => refEncode_any recx W recx_ok (by decide)
  have EA' := Lib.hid EA
  have hl40 := Lib.hid encx_len
  have kc := fun (w : World) (C : Array Value) (n c : Nat) => Lib.run_convert_bytes_const (P := Try.prog) w 24 5 C n c Try.underlying24 Try.underlying5
  clear EA
  go_enter Try.func33, Try.ntmps33
  go_wp2_with fail
  have rd1 : RdB (w.alloc (.cells #[.int .u8 106, .int .u8 117, .int .u8 110, .int .u8 107, .int .u8 83] 5 (5, 6))) (w.heap.size + 1) (some ⟨w.heap.size, 0, none⟩) [106, 117, 110, 107, 83] := Rd.new w _ _ _
  have bel1 := (Below.refl w.heap.size w).alloc (Nat.le_refl _) (.cells #[.int .u8 106, .int .u8 117, .int .u8 110, .int .u8 107, .int .u8 83] 5 (5, 6))
  refine (EA'.out _).mono ?_
  rintro e w2 ⟨v2, rfl, own2, hb2⟩
  obtain ⟨A2, c2, rfl, _, _, r2, _⟩ := own2.slice
  rw [hl40.out]
  have rd2 := rd1.below (D := w.heap.size + 1) (hb2.mono (by simp))
  have bel2 := bel1.trans (hb2.mono bel1.size)
  have hz2 := bel2.size
  clear rd1 own2 hb2 bel1 kc
  go_wp2_with (at_builtin; refine wpList_append_grow_u8 rfl (.tmp 6) (.tmp 8) rfl w.heap.size 0 5 (w.heap.size + 1) w2.heap.size [106, 117, 110, 107, 83] 5 rfl rfl rd2 A2 40 c2 (enc recx) rfl hl40.out.symm r2 (by rw [hl40.out]; omega) (by rw [hl40.out]; simp) (by rw [hl40.out]; simp) ?_; intro v3 w3 own3 g3)
  have bel3 : Below w.heap.size w w3 := bel2.trans (g3.mono hz2)
  have own3' : OwnB w3 w2.heap.size v3 junk := own3
  obtain ⟨A3, c3, rfl, hc3, hm3, r3, _⟩ := own3'.slice
  have hz3 := bel3.size
  have hj := junk_len
  rw [hj] at hc3
  have SA : ∀ W : World, RdB W W.heap.size A3 junk → Calls Try.prog 39 #[.slice A3 45 c3] W fun e w' => ∃ v, e = .returned v ∧ OwnF 60 w' W.heap.size v [(5, recx)] ∧ Below W.heap.size W w' := fun W hr => by
    have h := scanAll_any A3 c3 junk W hr (by rw [hj]; omega) (by rw [hj]; exact hc3) hm3
    rwa [hj, junk_all] at h
  have SF : ∀ W : World, RdB W W.heap.size A3 junk → Calls Try.prog 35 #[.slice A3 45 c3] W fun e w' => ∃ v, e = .returned (.tuple #[v, .int .i64 0]) ∧ OwnF 60 w' W.heap.size v [] ∧ Below W.heap.size W w' := fun W hr => by
    have h := scanFront_any A3 c3 junk W hr (by rw [hj]; omega) (by rw [hj]; exact hc3) hm3
    rwa [hj, junk_front] at h
  have SA' := Lib.hid SA
  have SF' := Lib.hid SF
  have R3 := Lib.hid r3
  rw [hj]
  clear SA SF r3 own3 own3' g3 rd2 hj hm3 hc3 r2 bel2 hz2
  refine (SA'.out _ R3.out).mono ?_
  rintro e w4 ⟨v4, rfl, own4, hb4⟩
  obtain ⟨A4, c4, rfl, _, _, r4, _⟩ := own4.slice
  have bel4 := bel3.trans (hb4.mono hz3)
  have R4 := Lib.hid (Rd.mono (R3.out.below hb4) hb4.size)
  have hz4 := bel4.size
  clear own4 hb4
  go_wp2_with fail
  refine (SF'.out _ R4.out).mono ?_
  rintro e w5 ⟨v5, rfl, own5, hb5⟩
  obtain ⟨A5, c5, rfl, _, _, r5, _⟩ := own5.slice
  have bel5 := bel4.trans (hb5.mono hz4)
  obtain ⟨b, off, rfl, hbb, h7⟩ := (show RdF w4 w4.heap.size A4 [(5, recx)] from r4).at_ (k := 0) (by simp)
  have h7' := h7.keep hb5 hbb
  unfold Seven at h7'
  simp only [List.getElem_cons_zero, recx, Nat.zero_mul, Nat.add_zero] at h7'
  obtain ⟨q0, q1, q2, q3, q4, q5, q6⟩ := h7'
  clear h7 r4 r5 own5 hb5
  go_wp2
  go_ret
  exact ⟨rfl, bel5⟩

end Go.Proofs.Ytehhgfkbcjbciaa
