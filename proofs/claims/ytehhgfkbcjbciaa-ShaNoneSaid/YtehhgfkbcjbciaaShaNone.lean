/- stillroomlaw2.ShaNone returns true. -/
import Derived.Test.YtehhgfkbcjbciaaBegun2
import Derived.Test.YtehhgfkbcjbciaaArrEq
import Derived.Lib.SlBytesConst
namespace Go.Proofs.Ytehhgfkbcjbciaa
open Go.RowKit

set_option maxRecDepth 100000 in
set_option maxHeartbeats 1000000 in
theorem shaNone_walk (w : World) : Calls Try.prog 15 #[] w fun e w' => e = .returned (.bool true) ∧ Below w.heap.size w w' := by
  have kc := fun (w : World) (C : Array Value) (n c : Nat) => Lib.run_convert_bytes_const (P := Try.prog) w 24 5 C n c Try.underlying24 Try.underlying5
  have hg := guard32
  have he := fun w => eq32_same w (sha []) (sha_len [])
  go_enter Try.func15, Try.ntmps15
  go_wp2_with fail
  refine (write_nil _ _ _ _).mono ?_
  rintro e w' ⟨rfl, rfl⟩
  go_wp2_with fail
  refine (begun2 _).mono ?_
  rintro e w2 ⟨rfl, b1⟩
  replace b1 := ((Below.refl w.heap.size w).alloc (Nat.le_refl _) _).trans (b1.mono (by simp))
  have s1 := b1.size
  go_wp2_with fail
  refine (sumNil_any w2).mono ?_
  rintro e w3 ⟨rfl, b2⟩
  replace b2 := b1.trans (b2.mono s1)
  have s2 := b2.size
  go_wp2_with fail
  refine (shaSum_any none 0 0 0 [] w3 rfl (Rd.nil _ _ _) (by omega) (by simp)).mono ?_
  rintro e w4 ⟨rfl, b3⟩
  replace b3 := b2.trans (b3.mono s2)
  have s3 := b3.size
  go_wp2_with fail
  refine (new_any w4).mono ?_
  rintro e w5 ⟨g, rfl, hgg, hh, b4⟩
  replace b4 := b3.trans (b4.mono s3)
  have s4 := b4.size
  go_wp2_with fail
  refine (sum_any _ g _ [] w5 hh (by simp)).mono ?_
  rintro e w6 ⟨rfl, b5⟩
  replace b5 := b4.trans (b5.mono s4)
  have s5 := b5.size
  clear hh
  go_wp2_with fail
  refine (shaSum_any none 0 0 0 [] w6 rfl (Rd.nil _ _ _) (by omega) (by simp)).mono ?_
  rintro e w7 ⟨rfl, b6⟩
  replace b6 := b5.trans (b6.mono s5)
  go_wp2_with fail
  go_ret
  exact ⟨rfl, b6⟩

end Go.Proofs.Ytehhgfkbcjbciaa
