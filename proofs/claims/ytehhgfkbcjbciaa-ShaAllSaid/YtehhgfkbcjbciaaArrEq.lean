/- Two arrays of 32 bytes compared. -/
import Derived.Test.YtehhgfkbcjbciaaHashSum
import Derived.Laws.StructEq
namespace Go.Proofs.Ytehhgfkbcjbciaa
open Go.RowKit

theorem guard32 : Try.prog.eqGuardType Try.prog.depth 64 = false := by kernel_rfl

theorem part_u8 (w : World) (l : List UInt8) (i : Nat) (h : i < l.length) : (part 5 (bcells l) i).run Try.prog w = .ok (.int .u8 ((l.getD i 0).toNat : Int)) w := by
  have h2 : (isAgg 5).run Try.prog w = .ok false w := by kernel_rfl
  have e : (bcells l)[i]? = some (.int .u8 ((l.getD i 0).toNat : Int)) := by
    unfold bcells
    rw [List.getElem?_toArray, List.getElem?_map, List.getElem?_eq_getElem h, List.getD_eq_getElem?_getD, List.getElem?_eq_getElem h]
    rfl
  simp [part, h2, e]

theorem same_all (a b : List UInt8) (ha : a.length = 32) (hb : b.length = 32) : ((List.range' 0 32).all fun i => a.getD i 0 == b.getD i 0) = (a == b) := by
  rw [Bool.eq_iff_iff, List.all_eq_true, beq_iff_eq]
  constructor
  · intro h
    apply List.ext_getElem (by omega)
    intro i h1 h2
    have := h i (by rw [List.mem_range'_1]; omega)
    simpa [List.getElem?_eq_getElem h1, List.getElem?_eq_getElem h2] using this
  · rintro rfl i _
    simp

theorem eq32_at (e : Nat) (he : ∀ w (x y : Int), (Op.equalIn e 5 (.int .u8 x) (.int .u8 y)).run Try.prog w = .ok (x == y) w) (w : World) (a b : List UInt8) (ha : a.length = 32) (hb : b.length = 32) :
    (Op.equalIn (e + 1) 64 (.agg (bcells a)) (.agg (bcells b))).run Try.prog w = .ok (a == b) w := by
  have hs : Try.prog.underlying 64 = some (.array 32 5) := Try.underlying64
  have h1 : ∀ w, (sizeOf 5).run Try.prog w = .ok 1 w := fun _ => by kernel_rfl
  rw [← same_all a b ha hb]
  simp only [Op.equalIn, Sem.run_bind, run_underlying hs, Result.andThen_ok, h1, Std.Legacy.Range.forIn_eq_forIn_range', Std.Legacy.Range.size]
  have hi : ∀ i ∈ List.range' 0 ((32 - 0 + 1 - 1) / 1), i < 32 := fun i h => by rw [List.mem_range'_1] at h; omega
  have hr : ∀ f : Nat → Bool, (List.range' 0 32).all f = (List.range' 0 ((32 - 0 + 1 - 1) / 1)).all f := fun _ => rfl
  rw [hr]
  generalize List.range' 0 ((32 - 0 + 1 - 1) / 1) = L at hi ⊢
  induction L generalizing w with
  | nil => simp
  | cons i is ih =>
    have e1 := part_u8 w a i (by have := hi i (by simp); omega)
    have e2 := part_u8 w b i (by have := hi i (by simp); omega)
    have e3 := he w ((a.getD i 0).toNat : Int) ((b.getD i 0).toNat : Int)
    have e4 : (((a.getD i 0).toNat : Int) == ((b.getD i 0).toNat : Int)) = (a.getD i 0 == b.getD i 0) := by
      rw [Bool.eq_iff_iff, beq_iff_eq, beq_iff_eq]
      constructor
      · intro h; exact UInt8.toNat_inj.mp (by omega)
      · intro h; rw [h]
    rw [e4] at e3
    have h3 := ih w (fun j hj => hi j (List.mem_cons_of_mem _ hj))
    simp only [List.forIn_cons, Sem.run_bind, Nat.mul_one, e1, e2, Result.andThen_ok, e3, List.all_cons] at h3 ⊢
    cases (a.getD i 0 == b.getD i 0)
    · simp
    · simp only [Bool.not_true, Bool.false_eq_true, if_false, Sem.run_pure, Result.andThen_ok, Bool.true_and]
      exact h3

theorem eq32 (w : World) (a b : List UInt8) (ha : a.length = 32) (hb : b.length = 32) : (Op.equalIn 10000 64 (.agg (bcells a)) (.agg (bcells b))).run Try.prog w = .ok (a == b) w :=
  eq32_at 9999 (fun w x y => run_equalIn_int (P := Try.prog) w 9998 5 .u8 .u8 x y Try.underlying5) w a b ha hb

theorem eq32_same (w : World) (a : List UInt8) (ha : a.length = 32) : (Op.equalIn 10000 64 (.agg (bcells a)) (.agg (bcells a))).run Try.prog w = .ok true w := by
  rw [eq32 w a a ha ha, beq_self_eq_true]

end Go.Proofs.Ytehhgfkbcjbciaa
