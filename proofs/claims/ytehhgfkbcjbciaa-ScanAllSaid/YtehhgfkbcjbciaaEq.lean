/- stillroomref6.Eq, the laws' Cut. -/
import Derived.Test.YtehhgfkbcjbciaaBox
namespace Go.Proofs.Ytehhgfkbcjbciaa
open Go.RowKit

/-- two records the same? -/
def eqR (a b : Rec) : Bool := a.kind == b.kind && (a.tenant : Int) == (b.tenant : Int) && (a.epoch : Int) == (b.epoch : Int) && (a.object : Int) == (b.object : Int) && (a.seq : Int) == (b.seq : Int) && a.body.toList == b.body.toList

theorem eqR_self (a : Rec) : eqR a a = true := by simp [eqR]

set_option maxRecDepth 100000 in
set_option maxHeartbeats 2000000 in
theorem eq_any (x y : Rec) (w : World) :
    Calls Try.prog 32 #[.agg x.cells, .agg y.cells] w fun e w' => e = .returned (.bool (eqR x y)) ∧ Below w.heap.size w w' := by
  obtain ⟨k1, t1, e1, o1, s1, b1⟩ := x
  obtain ⟨k2, t2, e2, o2, s2, b2⟩ := y
  unfold Rec.cells eqR
  simp only
  cases h0 : (k1 == k2) with
  | false =>
    go_enter Try.func32, Try.ntmps32
    go_wp2
    go_ret
    exact ⟨rfl, ((Below.refl _ _).alloc (Nat.le_refl _) _).alloc (by simp) _⟩
  | true =>
    cases h1 : ((t1 : Int) == (t2 : Int)) with
    | false =>
      go_enter Try.func32, Try.ntmps32
      go_wp2
      go_ret
      exact ⟨rfl, ((Below.refl _ _).alloc (Nat.le_refl _) _).alloc (by simp) _⟩
    | true =>
      cases h2 : ((e1 : Int) == (e2 : Int)) with
      | false =>
        go_enter Try.func32, Try.ntmps32
        go_wp2
        go_ret
        exact ⟨rfl, ((Below.refl _ _).alloc (Nat.le_refl _) _).alloc (by simp) _⟩
      | true =>
        cases h3 : ((o1 : Int) == (o2 : Int)) with
        | false =>
          go_enter Try.func32, Try.ntmps32
          go_wp2
          go_ret
          exact ⟨rfl, ((Below.refl _ _).alloc (Nat.le_refl _) _).alloc (by simp) _⟩
        | true =>
          cases h4 : ((s1 : Int) == (s2 : Int)) with
          | false =>
            go_enter Try.func32, Try.ntmps32
            go_wp2
            go_ret
            exact ⟨rfl, ((Below.refl _ _).alloc (Nat.le_refl _) _).alloc (by simp) _⟩
          | true =>
            cases h5 : (b1.toList == b2.toList) with
            | false =>
              go_enter Try.func32, Try.ntmps32
              go_wp2
              go_ret
              exact ⟨rfl, ((Below.refl _ _).alloc (Nat.le_refl _) _).alloc (by simp) _⟩
            | true =>
              go_enter Try.func32, Try.ntmps32
              go_wp2
              go_ret
              exact ⟨rfl, ((Below.refl _ _).alloc (Nat.le_refl _) _).alloc (by simp) _⟩

/-- a text cut -/
def cutS (s : ByteArray) (n : Nat) : ByteArray := if n < s.size then s.extract 0 n else s

theorem cutS_size (s : ByteArray) (n : Nat) : (cutS s n).size ≤ n := by
  unfold cutS
  split
  · rw [ByteArray.size_extract]; omega
  · omega

set_option maxHeartbeats 400000 in
theorem cut1_any (s : ByteArray) (n : Nat) (w : World) (_hs : s.size ≤ maxLen) (hn : n ≤ maxLen) :
    Calls Try.prog 52 #[.string s, .int .i64 (n : Int)] w fun e w' => e = .returned (.string (cutS s n)) ∧ w = w' := by
  unfold maxLen at hn
  by_cases h : n < s.size
  · have H := Lib.hid (show cutS s n = s.extract 0 n by rw [cutS, if_pos h])
    go_enter Try.func52, Try.ntmps52
    go_wp2
    go_ret
    exact ⟨by rw [H.out]; rfl, rfl⟩
  · have H := Lib.hid (show cutS s n = s by rw [cutS, if_neg h])
    go_enter Try.func52, Try.ntmps52
    go_wp2
    go_ret
    exact ⟨by rw [H.out]; rfl, rfl⟩

set_option maxRecDepth 100000 in
set_option maxHeartbeats 1000000 in
theorem cut6_any (R : Rec) (n : Nat) (w : World) (hs : R.body.size ≤ maxLen) (hn : n ≤ maxLen) :
    Calls Try.prog 26 #[.agg R.cells, .int .i64 (n : Int)] w fun e w' => e = .returned (.agg ({ R with body := cutS R.body n } : Rec).cells) ∧ Below w.heap.size w w' := by
  obtain ⟨k1, t1, e1, o1, s1, b1⟩ := R
  have C := Lib.hid (fun W => cut1_any b1 n W hs hn)
  unfold Rec.cells
  simp only
  clear hs hn
  go_enter Try.func26, Try.ntmps26
  go_wp2_with fail
  refine (C.out _).mono ?_
  rintro e w' ⟨rfl, rfl⟩
  go_wp2
  exact bodyPost_ret (v := .agg #[.int .i64 k1, .int .u32 (t1 : Int), .int .u64 (e1 : Int), .int .u64 (o1 : Int), .int .u64 (s1 : Int), .string (cutS b1 n)]) (by simp [results, Try.results26, go_sem]) rfl ⟨rfl, ((Below.refl _ _).alloc (Nat.le_refl _) _).alloc (by simp) _⟩

end Go.Proofs.Ytehhgfkbcjbciaa
