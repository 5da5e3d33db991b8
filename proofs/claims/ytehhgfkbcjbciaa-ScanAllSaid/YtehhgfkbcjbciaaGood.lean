/- stillroomlaw6.Good, and the walk of ScanAll. -/
import Derived.Test.YtehhgfkbcjbciaaRecs
import Derived.Test.YtehhgfkbcjbciaaCrcBurst
namespace Go.Proofs.Ytehhgfkbcjbciaa
open Go.RowKit

set_option maxRecDepth 100000 in
set_option maxHeartbeats 2000000 in
theorem good_any (A : Option Addr) (c : Nat) (l : List Rec) (w : World) (hr : RdR w w.heap.size A l) (hl : l.length ≤ 9223372036854775807) (hok : ∀ R ∈ l, R.Ok ∧ R.body.size ≤ maxLen) :
    Calls Try.prog 34 #[.slice A l.length c, .int .i64 6] w fun e w' => ∃ v out, e = .returned v ∧ OwnR w' w.heap.size v out ∧ out.length ≤ 6 ∧ (∀ R ∈ out, R.Ok ∧ R.body.size ≤ 200) ∧ Below w.heap.size w w' := by
  have R0 := Lib.hid hr
  have OK := Lib.hid hok
  clear hr hok
  go_enter Try.func34, Try.ntmps34
  go_wp2
  go_loopw [5, 6] (fun v i wr => ∃ (k : Nat) (out : List Rec), k ≤ l.length ∧ i = .int .i64 k ∧ out.length ≤ 6 ∧ OwnR wr w.heap.size v out ∧ (∀ R ∈ out, R.Ok ∧ R.body.size ≤ 200) ∧ Below w.heap.size w wr) (fun _ i _ => l.length - (intOf i).toNat)
  case atStart => exact ⟨0, [], by omega, rfl, by simp, OwnR.nil _ _, by simp, Below.refl _ _⟩
  case round =>
    obtain ⟨k, out, hk, rfl, hout, own, hall, bel⟩ := hrel
    have Hall := Lib.hid hall
    clear hall
    by_cases hlt : k < l.length
    · by_cases hlt6 : out.length < 6
      · obtain ⟨A2, c2, rfl, hc2, hm2, r2, _⟩ := own.slice
        clear r2
        obtain ⟨b, off, rfl, hb, h6⟩ := R0.out.at_ hlt
        obtain ⟨ok1, sz1⟩ := OK.out l[k] (List.getElem_mem hlt)
        have hsz := bel.size
        have hkl : (k : Int) < (l.length : Int) := by omega
        have q := h6.keep bel hb
        unfold Six at q
        obtain ⟨q0, q1, q2, q3, q4, q5⟩ := q
        have CU := Lib.hid (fun W => cut6_any l[k] 200 W sz1 (by decide))
        have ok2 : ({ l[k] with body := cutS l[k].body 200 } : Rec).Ok := ⟨ok1.lo, ok1.hi, ok1.tenant, ok1.epoch, ok1.object, ok1.seq⟩
        have sz2 : ({ l[k] with body := cutS l[k].body 200 } : Rec).body.size ≤ 200 := cutS_size _ _
        generalize hRT : ({ l[k] with body := cutS l[k].body 200 } : Rec) = RT at *
        have OK2 := Lib.hid (And.intro ok2 sz2)
        have MA := Lib.hid (fun W => refMay_any RT W (Nat.le_trans sz2 (by decide)))
        unfold Rec.cells at CU MA
        have hRT' := Lib.hid hRT
        clear h6 ok1 sz1 ok2 sz2 hRT
        go_wp2_with fail
        refine (CU.out _).mono ?_
        rintro e w2 ⟨rfl, hb2⟩
        have own2 := own.below hb2
        have bel2 := bel.trans (hb2.mono hsz)
        have hz2 := bel2.size
        clear own hb2 q0 q1 q2 q3 q4 q5 CU
        go_wp2_with fail
        have blk3 : Blk (w2.alloc (.cells #[.int .i64 RT.kind, .int .u32 (RT.tenant : Int), .int .u64 (RT.epoch : Int), .int .u64 (RT.object : Int), .int .u64 (RT.seq : Int), .string RT.body] 35)) w2.heap.size 35 RT.cells := Blk.new w2 _ _
        have own3 := own2.below ((Below.refl w2.heap.size w2).alloc (Nat.le_refl _) (.cells #[.int .i64 RT.kind, .int .u32 (RT.tenant : Int), .int .u64 (RT.epoch : Int), .int .u64 (RT.object : Int), .int .u64 (RT.seq : Int), .string RT.body] 35))
        have bel3 := bel2.alloc hz2 (.cells #[.int .i64 RT.kind, .int .u32 (RT.tenant : Int), .int .u64 (RT.epoch : Int), .int .u64 (RT.object : Int), .int .u64 (RT.seq : Int), .string RT.body] 35)
        refine (MA.out _).mono ?_
        rintro e w4 ⟨rfl, hb4⟩
        have blk4 := blk3.below hb4 (by simp)
        have own4 := own3.below hb4
        have bel4 := bel3.trans (hb4.mono bel3.size)
        have hz4 := bel4.size
        clear blk3 own3 own2 bel3 hb4
        obtain ⟨q0, q1, q2, q3, q4, q5⟩ := cells6 (show Blk w4 w2.heap.size 35 #[.int .i64 RT.kind, .int .u32 (RT.tenant : Int), .int .u64 (RT.epoch : Int), .int .u64 (RT.object : Int), .int .u64 (RT.seq : Int), .string RT.body] from blk4)
        cases hm : RT.may with
        | true =>
          have HM := Lib.hid hm
          clear hm
          go_wp2_with (at_builtin; refine wpList_append_r rfl (.tmp 27) (.tmp 29) rfl w.heap.size (.slice A2 out.length c2) out RT w4.heap.size rfl (own4.below ((Below.refl _ _).alloc (Nat.le_refl _) _)) rfl (Blk.new w4 _ _) (by omega) (by simp; omega) ?_; intro v5 w5 own5 g5)
          have bel5 : Below w.heap.size w w5 := (bel4.alloc hz4 _).grown g5 (by simp; omega) (fun g hg => (own4.lt g hg).1)
          go_wp2
          go_roundw
          case rel => exact ⟨k + 1, out ++ [RT], by omega, by go_num, by simp; omega, own5, fun R hR => by (rcases List.mem_append.1 hR with h | h); exact Hall.out R h; (rw [List.mem_singleton] at h; subst h; exact OK2.out), bel5⟩
          case measure => simp [intOf]; omega
        | false =>
          have HM := Lib.hid hm
          clear hm
          go_wp2
          go_roundw
          case rel => exact ⟨k + 1, out, by omega, by go_num, by omega, own4, Hall.out, bel4⟩
          case measure => simp [intOf]; omega
      · obtain ⟨A2, c2, rfl, hc2, hm2, r2, _⟩ := own.slice
        clear r2
        go_wp2
        go_ret
        exact ⟨_, out, rfl, own, hout, Hall.out, bel⟩
    · obtain rfl : k = l.length := by omega
      obtain ⟨A2, c2, rfl, hc2, hm2, r2, _⟩ := own.slice
      clear r2
      go_wp2
      go_ret
      exact ⟨_, out, rfl, own, hout, Hall.out, bel⟩

end Go.Proofs.Ytehhgfkbcjbciaa
