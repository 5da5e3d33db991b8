/- Records as values; May. -/
import Derived.Test.YtehhgfkbcjbciaaNum
import Derived.Test.YtehhgfkbcjbciaaCrc
import Derived.RegionTactic
import Derived.Deep.RegionHeld3
namespace Go.Proofs.Ytehhgfkbcjbciaa
open Go.RowKit

/-- a record -/
structure Rec where
  kind : Int
  tenant : Nat
  epoch : Nat
  object : Nat
  seq : Nat
  body : ByteArray

/-- a record's cells -/
def Rec.cells (R : Rec) : Array Value := #[.int .i64 R.kind, .int .u32 (R.tenant : Int), .int .u64 (R.epoch : Int), .int .u64 (R.object : Int), .int .u64 (R.seq : Int), .string R.body]

/-- a record's numbers fit -/
structure Rec.Ok (R : Rec) : Prop where
  lo : -9223372036854775808 ≤ R.kind
  hi : R.kind ≤ 9223372036854775807
  tenant : R.tenant < 4294967296
  epoch : R.epoch < 18446744073709551616
  object : R.object < 18446744073709551616
  seq : R.seq < 18446744073709551616

/-- may a record be? -/
def Rec.may (R : Rec) : Bool := decide (1 ≤ R.kind ∧ R.kind ≤ 4 ∧ R.epoch ≤ 1099511627776 ∧ R.object ≤ 1099511627776 ∧ R.seq ≤ 1099511627776 ∧ R.body.size ≤ 1000)

set_option maxRecDepth 100000 in
set_option maxHeartbeats 1000000 in
theorem may_any (R : Rec) (w : World) (hs : R.body.size ≤ maxLen) :
    Calls Try.prog 29 #[.agg R.cells] w fun e w' => e = .returned (.bool R.may) ∧ Below w.heap.size w w' := by
  obtain ⟨kind, tenant, epoch, object, seq, body⟩ := R
  unfold Rec.cells Rec.may
  unfold maxLen at hs
  simp only at hs ⊢
  have M : (1099511627776 : Int) = ((1099511627776 : Nat) : Int) := rfl
  by_cases h1 : 1 ≤ kind
  · by_cases h2 : kind ≤ 4
    · by_cases h3 : epoch ≤ 1099511627776 ∧ object ≤ 1099511627776 ∧ seq ≤ 1099511627776
      · obtain ⟨e1, e2, e3⟩ := h3
        by_cases h4 : body.size ≤ 1000
        · rw [decide_eq_true (by omega)]
          have i1 : (epoch : Int) ≤ 1099511627776 := by omega
          have i2 : (object : Int) ≤ 1099511627776 := by omega
          have i3 : (seq : Int) ≤ 1099511627776 := by omega
          clear e1 e2 e3 M
          go_enter Try.func29, Try.ntmps29
          go_wp2
          all_goals (first | (go_ret; exact ⟨by simp; omega, (Below.refl _ _).alloc (Nat.le_refl _) _⟩) | go_goals)
        · rw [decide_eq_false (by omega)]
          have i1 : (epoch : Int) ≤ 1099511627776 := by omega
          have i2 : (object : Int) ≤ 1099511627776 := by omega
          have i3 : (seq : Int) ≤ 1099511627776 := by omega
          clear e1 e2 e3 M
          go_enter Try.func29, Try.ntmps29
          go_wp2
          all_goals (first | (go_ret; exact ⟨by simp; omega, (Below.refl _ _).alloc (Nat.le_refl _) _⟩) | go_goals)
      · rw [decide_eq_false (by omega)]
        have i1 : ¬ ((epoch : Int) ≤ 1099511627776 ∧ (object : Int) ≤ 1099511627776 ∧ (seq : Int) ≤ 1099511627776) := by omega
        have I1 := Lib.hid i1
        clear h3 M i1
        go_enter Try.func29, Try.ntmps29
        go_wp2
        all_goals (have i1 := I1.out; first | (exfalso; omega) | (go_ret; exact ⟨rfl, (Below.refl _ _).alloc (Nat.le_refl _) _⟩))
    · rw [decide_eq_false (by omega)]
      go_enter Try.func29, Try.ntmps29
      go_wp2
      go_ret
      exact ⟨rfl, (Below.refl _ _).alloc (Nat.le_refl _) _⟩
  · rw [decide_eq_false (by omega)]
    go_enter Try.func29, Try.ntmps29
    go_wp2
    go_ret
    exact ⟨rfl, (Below.refl _ _).alloc (Nat.le_refl _) _⟩
set_option maxRecDepth 100000 in
set_option maxHeartbeats 1000000 in
theorem refMay_any (R : Rec) (w : World) (hs : R.body.size ≤ maxLen) :
    Calls Try.prog 30 #[.agg R.cells] w fun e w' => e = .returned (.bool R.may) ∧ Below w.heap.size w w' := by
  obtain ⟨kind, tenant, epoch, object, seq, body⟩ := R
  unfold Rec.cells Rec.may
  unfold maxLen at hs
  simp only at hs ⊢
  have key : decide (1 ≤ kind ∧ kind ≤ 4 ∧ epoch ≤ 1099511627776 ∧ object ≤ 1099511627776 ∧ seq ≤ 1099511627776 ∧ body.size ≤ 1000) = decide (1 ≤ kind ∧ kind ≤ 4 ∧ (epoch : Int) ≤ 1099511627776 ∧ (object : Int) ≤ 1099511627776 ∧ (seq : Int) ≤ 1099511627776 ∧ (body.size : Int) ≤ 1000) := by
    congr 1
    apply propext
    omega
  rw [key]
  clear key
  by_cases h1 : 1 ≤ kind
  · by_cases h2 : kind ≤ 4
    · by_cases h3 : (epoch : Int) ≤ 1099511627776
      · by_cases h4 : (object : Int) ≤ 1099511627776
        · by_cases h5 : (seq : Int) ≤ 1099511627776
          · by_cases h6 : (body.size : Int) ≤ 1000
            · rw [decide_eq_true (by omega)]
              go_enter Try.func30, Try.ntmps30
              go_wp2
              go_ret
              exact ⟨rfl, (Below.refl _ _).alloc (Nat.le_refl _) _⟩
            · rw [decide_eq_false (by omega)]
              go_enter Try.func30, Try.ntmps30
              go_wp2
              go_ret
              exact ⟨rfl, (Below.refl _ _).alloc (Nat.le_refl _) _⟩
          · rw [decide_eq_false (by omega)]
            go_enter Try.func30, Try.ntmps30
            go_wp2
            go_ret
            exact ⟨rfl, (Below.refl _ _).alloc (Nat.le_refl _) _⟩
        · rw [decide_eq_false (by omega)]
          go_enter Try.func30, Try.ntmps30
          go_wp2
          go_ret
          exact ⟨rfl, (Below.refl _ _).alloc (Nat.le_refl _) _⟩
      · rw [decide_eq_false (by omega)]
        go_enter Try.func30, Try.ntmps30
        go_wp2
        go_ret
        exact ⟨rfl, (Below.refl _ _).alloc (Nat.le_refl _) _⟩
    · rw [decide_eq_false (by omega)]
      go_enter Try.func30, Try.ntmps30
      go_wp2
      go_ret
      exact ⟨rfl, (Below.refl _ _).alloc (Nat.le_refl _) _⟩
  · rw [decide_eq_false (by omega)]
    go_enter Try.func30, Try.ntmps30
    go_wp2
    go_ret
    exact ⟨rfl, (Below.refl _ _).alloc (Nat.le_refl _) _⟩
end Go.Proofs.Ytehhgfkbcjbciaa
