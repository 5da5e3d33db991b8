/- Short, begun: what the laws of stage 1 share. -/
import Derived.Test.YtehhgfkbcjbciaaCrc
import Derived.Test.YtehhgfkbcjbciaaBytes
import Derived.Lib.SlBytesConst
namespace Go.Proofs.Ytehhgfkbcjbciaa
open Go.RowKit

set_option maxHeartbeats 400000 in
theorem short_slice (A : Option Addr) (n c m : Nat) (w : World) (hc : n ≤ c) (_hm : c ≤ maxLen) (h63 : m < 9223372036854775808) :
    Calls Try.prog 21 #[.slice A n c, .int .i64 (m : Int)] w fun e w' => e = .returned (.slice A (min n m) c) ∧ w = w' := by
  by_cases h : m < n
  · have hmin : min n m = m := by omega
    rw [hmin]
    clear hmin
    go_enter Try.func21, Try.ntmps21
    go_wp2
    go_ret
    exact ⟨rfl, rfl⟩
  · have hmin : min n m = n := by omega
    rw [hmin]
    clear hmin
    go_enter Try.func21, Try.ntmps21
    go_wp2
    go_ret
    exact ⟨rfl, rfl⟩

/-- Short: the slice reads as the list's beginning -/
theorem short_any (A : Option Addr) (n c m : Nat) (l : List UInt8) (w : World) (D : Nat) (hn : n = l.length) (hc : n ≤ c) (hm : c ≤ maxLen) (h63 : m < 9223372036854775808) (hr : RdB w D A l) :
    Calls Try.prog 21 #[.slice A n c, .int .i64 (m : Int)] w fun e w' => (e = .returned (.slice A (l.take m).length c) ∧ RdB w D A (l.take m)) ∧ w = w' :=
  (short_slice A n c m w hc hm h63).mono fun e w' ⟨he, hw⟩ => ⟨⟨by rw [he, List.length_take, hn, Nat.min_comm], hr.take m⟩, hw⟩

set_option maxRecDepth 100000 in
set_option maxHeartbeats 400000 in
theorem begun1_any (w : World) :
    Calls Try.prog 20 #[] w fun e w' => e = .returned (.bool true) ∧ Below w.heap.size w w' := by
  go_enter Try.func20, Try.ntmps20
  have kc := fun (w : World) (C : Array Value) (n c : Nat) => Lib.run_convert_bytes_const (P := Try.prog) w 24 5 C n c Try.underlying24 Try.underlying5
  go_wp2_with fail
  refine (crcSum_any _ _ _ [49, 50, 51, 52, 53, 54, 55, 56, 57] _ _ rfl (Rd.new w _ _ _) (by simp [maxLen])).mono ?_
  rintro e w' ⟨rfl, rfl⟩
  rw [crcSum_digits, show U 0xe3069283#32 = 3808858755 from by decide]
  go_wp2_with fail
  refine (crcSum_any _ _ _ [] _ 0 rfl (Rd.nil _ _ _) (by simp [maxLen])).mono ?_
  rintro e w' ⟨rfl, rfl⟩
  rw [crcSum_nil, show U 0#32 = 0 from by decide]
  go_wp2
  go_ret
  exact ⟨rfl, (Below.refl _ _).alloc (Nat.le_refl _) _⟩

end Go.Proofs.Ytehhgfkbcjbciaa
