/- Proved: for every input that the row lets in, the Go function stillroom/stillroomlaw3.MacCheck returns true, and its arguments read afterwards as they read before. Conditions: none of this text's own, only what the given row itself says. -/
import Derived.Test.YtehhgfkbcjbciaaMacCheck
import Derived.Test.YtehhgfkbcjbciaaOpen
namespace Go.Proofs.Ytehhgfkbcjbciaa.macCheck
open Go.ChangeShapes Go.WideShapes Go.ChangeAt Go.RowKit
set_option linter.unusedVariables false

set_option maxRecDepth 100000 in
theorem lifted (os : Os) (started : os.Started) (H : Type) (enc : TypeId × Value → H) :
    ReturnsInHanded {} Try.checked os 19 .any (Rows.macCheckSpec.pre6 enc Try.prog Try.f19 Rows.macCheckRow.domain false) (Rows.macCheckSpec.post enc Try.prog Try.f19 false true false false) := by
  refine returnsInHanded_of_change (C := Try.checked) ownKnobNone started (by kernel_rfl) Try.func19
    (ChangeSpec.witness6 (enc := enc) (C := Try.checked) false ⟨#[], #[.slice none 0 0, .slice none 0 0, .int .i64 0, .int .u8 0, .int .i64 0], []⟩ 8 (by kernel_rfl) (by kernel_rfl) (by kernel_rfl) (by kernel_rfl)) ?_
  intro W base args ds gs before hval0 hW hcnd _
  have hval : ∀ (j : Nat) t v, Try.f19.params[j]? = some t → args[j]? = some v → Value.okWide Try.prog W .any base t v := hval0
  have hW' := hW
  obtain ⟨p, q, hA0, hV, rfl, hfz, hnd⟩ := hW
  have hA : DataW.TrodAll enc Try.prog W 0 (fun _ => true) true Try.f19.params.toList args.toList ds p := hA0
  rw [Try.params19] at hA hval
  obtain ⟨v0, vs0, d0, ds0, p0, q0, hargs, rfl, rfl, h0, t0⟩ := trodAll_cons hA
  obtain ⟨v1, vs1, d1, ds1, p1, q1, rfl, rfl, rfl, h1, t1⟩ := trodAll_cons t0
  obtain ⟨v2, vs2, d2, ds2, p2, q2, rfl, rfl, rfl, h2, t2⟩ := trodAll_cons t1
  obtain ⟨v3, vs3, d3, ds3, p3, q3, rfl, rfl, rfl, h3, t3⟩ := trodAll_cons t2
  obtain ⟨v4, vs4, d4, ds4, p4, q4, rfl, rfl, rfl, h4, t4⟩ := trodAll_cons t3
  obtain ⟨rfl, rfl, rfl⟩ := trodAll_nil t4
  obtain rfl : args = #[v0, v1, v2, v3, v4] := by cases args; simp_all
  obtain ⟨rfl, rfl⟩ := trodVars_none hV
  have k0 : Arg enc W base 24 v0 d0 p0 := ⟨hval 0 24 v0 rfl rfl, h0⟩
  have k1 : Arg enc W base 24 v1 d1 p1 := ⟨hval 1 24 v1 rfl rfl, h1⟩
  have k2 : Arg enc W base 3 v2 d2 p2 := ⟨hval 2 3 v2 rfl rfl, h2⟩
  have k3 : Arg enc W base 5 v3 d3 p3 := ⟨hval 3 5 v3 rfl rfl, h3⟩
  have k4 : Arg enc W base 3 v4 d4 p4 := ⟨hval 4 3 v4 rfl rfl, h4⟩
  clear hA0 hval0 hval hA
  obtain ⟨A0, l0, c0, rfl, hc0, hm0, r0⟩ := open_bytes k0
  obtain ⟨A1, l1, c1, rfl, hc1, hm1, r1⟩ := open_bytes k1
  obtain ⟨n2, rfl, lo2, hi2⟩ := open_i64 k2
  obtain ⟨x3, rfl⟩ := open_u8 k3
  obtain ⟨n4, rfl, lo4, hi4⟩ := open_i64 k4
  refine (macCheck_walk A0 A1 c0 c1 l0 l1 n2 n4 x3 W hc0 hc1 hm0 hm1 r0 r1 hi2).mono fun e W' ⟨he, bel⟩ => ?_
  subst he
  exact ⟨_, rfl, _, _, _, [], _, [], hW', trodAll_mk1 (shut_bool Try.underlying4 _), (trodAll_cons_mk (Below.trod laidOutAll (by kernel_rfl) (of_decide_eq_true (by kernel_rfl)) k0.2 bel k0.lt) (trodAll_cons_mk (Below.trod laidOutAll (by kernel_rfl) (of_decide_eq_true (by kernel_rfl)) k1.2 bel k1.lt) (trodAll_cons_mk (Below.trod laidOutAll (by kernel_rfl) (of_decide_eq_true (by kernel_rfl)) k2.2 bel k2.lt) (trodAll_cons_mk (Below.trod laidOutAll (by kernel_rfl) (of_decide_eq_true (by kernel_rfl)) k3.2 bel k3.lt) (trodAll_cons_mk (Below.trod laidOutAll (by kernel_rfl) (of_decide_eq_true (by kernel_rfl)) k4.2 bel k4.lt) trodAll_mk0))))), rfl, bel.frame _, fun h => by cases h⟩

theorem proved : Rows.MacCheckSaid :=
  OpenClaim.holds_of_wide 19 Try.f19 rfl rfl rfl rfl rfl rfl rfl ⟨rfl, rfl, rfl, rfl, rfl⟩ rfl rfl rfl rfl rfl (by kernel_rfl) Try.func19 (by kernel_rfl)
    (of_decide_eq_true (by kernel_rfl)) (by unfold Func.isWrapper; first | (rw [if_pos (by decide +kernel)]; kernel_rfl) | (rw [if_neg (by decide +kernel)]; exact ⟨rfl, rfl⟩))
    (fun os started H enc _ => lifted os started H enc)
#print axioms proved
end Go.Proofs.Ytehhgfkbcjbciaa.macCheck
