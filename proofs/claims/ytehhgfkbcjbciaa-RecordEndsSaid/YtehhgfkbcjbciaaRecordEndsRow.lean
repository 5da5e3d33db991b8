/- Proved: for every input that the row lets in, the Go function stillroom/stillroomlaw6.RecordEnds returns true, and its arguments read afterwards as they read before. Conditions: none of this text's own, only what the given row itself says. -/
import Derived.Test.YtehhgfkbcjbciaaRecordEnds
import Derived.Test.YtehhgfkbcjbciaaOpenRec
import Derived.Test.YtehhgfkbcjbciaaOpen
namespace Go.Proofs.Ytehhgfkbcjbciaa.recordEnds
open Go.ChangeShapes Go.WideShapes Go.ChangeAt Go.RowKit
set_option linter.unusedVariables false

set_option maxRecDepth 100000 in
theorem lifted (os : Os) (started : os.Started) (H : Type) (enc : TypeId × Value → H) :
    ReturnsInHanded {} Try.checked os 9 .any (Rows.recordEndsSpec.pre6 enc Try.prog Try.f9 Rows.recordEndsRow.domain false) (Rows.recordEndsSpec.post enc Try.prog Try.f9 false true false false) := by
  refine returnsInHanded_of_change (C := Try.checked) ownKnobNone started (by kernel_rfl) Try.func9
    (ChangeSpec.witness6 (enc := enc) (C := Try.checked) false ⟨#[], #[.int .i64 0, .int .u64 0, .int .u64 0, .int .u64 0], []⟩ 8 (by kernel_rfl) (by kernel_rfl) (by kernel_rfl) (by kernel_rfl)) ?_
  intro W base args ds gs before hval0 hW hcnd _
  have hval : ∀ (j : Nat) t v, Try.f9.params[j]? = some t → args[j]? = some v → Value.okWide Try.prog W .any base t v := hval0
  have hW' := hW
  obtain ⟨p, q, hA0, hV, rfl, hfz, hnd⟩ := hW
  have hA : DataW.TrodAll enc Try.prog W 0 (fun _ => true) true Try.f9.params.toList args.toList ds p := hA0
  rw [Try.params9] at hA hval
  obtain ⟨v0, vs0, d0, ds0, p0, q0, hargs, rfl, rfl, h0, t0⟩ := trodAll_cons hA
  obtain ⟨v1, vs1, d1, ds1, p1, q1, rfl, rfl, rfl, h1, t1⟩ := trodAll_cons t0
  obtain ⟨v2, vs2, d2, ds2, p2, q2, rfl, rfl, rfl, h2, t2⟩ := trodAll_cons t1
  obtain ⟨v3, vs3, d3, ds3, p3, q3, rfl, rfl, rfl, h3, t3⟩ := trodAll_cons t2
  obtain ⟨rfl, rfl, rfl⟩ := trodAll_nil t3
  obtain rfl : args = #[v0, v1, v2, v3] := by cases args; simp_all
  obtain ⟨rfl, rfl⟩ := trodVars_none hV
  have k0 : Arg enc W base 3 v0 d0 p0 := ⟨hval 0 3 v0 rfl rfl, h0⟩
  have k1 : Arg enc W base 33 v1 d1 p1 := ⟨hval 1 33 v1 rfl rfl, h1⟩
  have k2 : Arg enc W base 33 v2 d2 p2 := ⟨hval 2 33 v2 rfl rfl, h2⟩
  have k3 : Arg enc W base 33 v3 d3 p3 := ⟨hval 3 33 v3 rfl rfl, h3⟩
  clear hA0 hval0 hval hA
  obtain ⟨n0, rfl, lo0, hi0⟩ := open_i64 k0
  obtain ⟨n1, rfl, hi1⟩ := open_u64 k1
  obtain ⟨n2, rfl, hi2⟩ := open_u64 k2
  obtain ⟨n3, rfl, hi3⟩ := open_u64 k3
  refine (recordEnds_walk n0 n1 n2 n3 W lo0 hi0 hi1 hi2 hi3).mono fun e W' ⟨he, bel⟩ => ?_
  subst he
  exact ⟨_, rfl, _, _, _, [], _, [], hW', trodAll_mk1 (shut_bool Try.underlying4 _), (trodAll_cons_mk (Below.trod laidOutAll (by kernel_rfl) (of_decide_eq_true (by kernel_rfl)) k0.2 bel k0.lt) (trodAll_cons_mk (Below.trod laidOutAll (by kernel_rfl) (of_decide_eq_true (by kernel_rfl)) k1.2 bel k1.lt) (trodAll_cons_mk (Below.trod laidOutAll (by kernel_rfl) (of_decide_eq_true (by kernel_rfl)) k2.2 bel k2.lt) (trodAll_cons_mk (Below.trod laidOutAll (by kernel_rfl) (of_decide_eq_true (by kernel_rfl)) k3.2 bel k3.lt) trodAll_mk0)))), rfl, bel.frame _, fun h => by cases h⟩

theorem proved : Rows.RecordEndsSaid :=
  OpenClaim.holds_of_wide 9 Try.f9 rfl rfl rfl rfl rfl rfl rfl ⟨rfl, rfl, rfl, rfl, rfl⟩ rfl rfl rfl rfl rfl (by kernel_rfl) Try.func9 (by kernel_rfl)
    (of_decide_eq_true (by kernel_rfl)) (by unfold Func.isWrapper; first | (rw [if_pos (by decide +kernel)]; kernel_rfl) | (rw [if_neg (by decide +kernel)]; exact ⟨rfl, rfl⟩))
    (fun os started H enc _ => lifted os started H enc)
#print axioms proved
end Go.Proofs.Ytehhgfkbcjbciaa.recordEnds
