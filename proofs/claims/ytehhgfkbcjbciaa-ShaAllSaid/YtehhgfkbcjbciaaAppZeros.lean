/- append(b, make([]byte, k)...) onto bytes of the call's own. -/
import Derived.Test.YtehhgfkbcjbciaaMid
import Derived.Lib.AppendZerosOnto
namespace Go.Proofs.Ytehhgfkbcjbciaa
open Go.RowKit

theorem zeroCells_u8 (k : Nat) : Builtin.zeroCells (Value.int .u8 0).cells k = ((List.replicate k (0 : UInt8)).map B).toArray := by
  show Builtin.zeroCells #[Value.int .u8 0] k = _
  apply Array.ext
  · rw [size_zeroCells]; simp
  · intro j h1 h2
    simp [Builtin.zeroCells, B, Nat.mod_one]

theorem run_append_zeros_u8 (w : World) (ty : TypeId) (base : Nat) (v : Value) (xs : List UInt8) (hown : OwnB w base v xs) (k : Nat) (h0 : 0 < k) (hlen : xs.length + k ≤ 140737488355328) (hbase : base ≤ w.heap.size) :
    ∃ v' w', (Builtin.append_ #[24, 3] ty #[v, .int .i64 (k : Int)]).run Try.prog w = .ok v' w' ∧ OwnB w' base v' (xs ++ List.replicate k 0) ∧ w.grownBy w' v.ownBlock := by
  obtain ⟨i, hi, hz0, hz1, hz2⟩ := info_parts info_u8
  have ht := Try.underlying24
  have htn := Try.underlying3
  have hgrow : ∀ (bs : Option Addr) (cap : Nat), (Builtin.firstCells i.size xs.length (.slice bs xs.length cap)).run Try.prog w.drew = .ok (xs.map B).toArray w.drew → cap < xs.length + k → ∀ row : Option Nat,
      ∃ v' w', (Builtin.append_ #[24, 3] ty #[.slice bs xs.length cap, .int .i64 (k : Int)]).run Try.prog w = .ok v' w' ∧ OwnB w' base v' (xs ++ List.replicate k 0) ∧ w.grownBy w' row := by
    intro bs cap hf hg row
    have hrun := Lib.run_append_grow_zeros (P := Try.prog) w 24 3 ty 5 i (.int .u8 0) .i64 _ ht htn hi hz0 bs xs.length cap (xs.map B) hf k h0 (by omega) hg (by omega) (by rw [hz2]; omega) (growslice_fits hg (by rw [hz2]; omega))
    refine ⟨_, _, hrun, ?_, ⟨rfl, rfl, rfl, by simp, fun j hj _ => Below.heap_alloc w.drew _ j hj⟩⟩
    unfold OwnB
    rw [List.length_append, List.length_replicate]
    refine ⟨by simp, .inr ⟨w.heap.size, grownCap w (xs.length + k) cap 5, _, rfl, hbase, heap_alloc_new w.drew _, grownCap_ge w _ _ _, grownCap_le_maxLen w _ _ _ (by unfold maxLen; omega), ?_, ?_⟩⟩
    · have h := grownCap_ge w (xs.length + k) cap 5
      simp only [Array.size_append, List.size_toArray, size_zeroCells, List.length_map]
      show xs.length + k * 1 + (_ - _) * 1 = _ * 1
      omega
    · rw [Nat.mul_one, Array.toList_append, Array.toList_append, zeroCells_u8 k, List.map_append]
      exact List.take_left' (by simp)
  rcases hown.2 with ⟨rfl, hn⟩ | ⟨g, cap, cur, rfl, hb, hg, hnc, hcm, hcs, htk⟩
  · have hx : xs = [] := List.eq_nil_of_length_eq_zero hn
    subst hx
    exact hgrow none 0 (by simp [Builtin.firstCells]) (by simpa using h0) _
  · by_cases hroom : xs.length + k ≤ cap
    · have hst := run_storeCells_at Try.prog g xs.length 5 (List.replicate k (B 0)) 0 cur w hg (by simp; omega) (fun v hv => by rw [List.mem_replicate] at hv; rw [hv.2]; rfl)
      simp only [Nat.add_zero] at hst
      have hw : IntKind.i64.wrap (k : Int) = k := by rw [IntKind.wrap_i64]; omega
      have hk : k ≠ 0 := by omega
      have h48i : ¬ (281474976710656 < (k : Int)) := by omega
      refine ⟨.slice (some ⟨g, 0, none⟩) (xs.length + k) cap, w.setRow g (cur.toList.take xs.length ++ List.replicate k (B 0) ++ cur.toList.drop (xs.length + (List.replicate k (B 0)).length)).toArray, ?_, ?_, ⟨rfl, rfl, rfl, by simp, fun j _ hj => setRow_other w g j _ (fun e => hj (by simp [Value.ownBlock, e]))⟩⟩
      · have hz := zeroCells_u8 k
        simp [Builtin.append_, run_underlying ht, run_underlying htn, sizeOf, typeInfo, zeroValue, hi, hz0, hz1, hz2, asInt, asIntOf, hw, hk, h48i, hroom, hz, Addr.add_lit, hst]
        omega
      · unfold OwnB
        have hlr : (List.replicate k (0 : UInt8)).length = k := List.length_replicate
        rw [List.length_append, hlr, List.map_append, List.map_replicate]
        have htk' : cur.toList.take xs.length = xs.map B := by simpa using htk
        refine ⟨by simp, .inr ⟨g, cap, _, rfl, hb, setRow_heap w g cur _ 5 _ hg, hroom, hcm, ?_, ?_⟩⟩
        · simp only [List.size_toArray, List.length_append, List.length_take, List.length_drop, Array.length_toList, List.length_replicate]
          omega
        · rw [htk', Nat.mul_one]
          exact List.take_left' (by simp)
    · refine hgrow (some ⟨g, 0, none⟩) cap ?_ (by omega) _
      have holds : ∀ j u, (xs.map B)[j]? = some u → w.drew.cell? ((⟨g, 0, none⟩ : Addr).add j) = some u := fun j u hu => hown.cells (g := g) rfl j u hu
      exact run_firstCells_some (P := Try.prog) w.drew i.size xs.length ⟨g, 0, none⟩ xs.length cap (xs.map B) (by rw [hz1]; simp) holds

theorem wpList_append_zeros_u8 {ops : Array Oper} {rest : List Oper} {o : Oper} {a : Act} {Q : Exit → Act → World → Prop} {w : World} (hgd : o.guard = none) (s x : Operand)
    (ho : o.op = .call { callee := .builtin .append, args := #[s, x], argTypes := #[24, 3] })
    (base : Nat) (v : Value) (xs : List UInt8) (hs : a.eval s = v) (hown : OwnB w base v xs) (k : Nat) (hx : a.eval x = .int .i64 (k : Int)) (h0 : 0 < k)
    (hlen : xs.length + k ≤ 140737488355328) (hbase : base ≤ w.heap.size)
    (h : ∀ v' w', OwnB w' base v' (xs ++ List.replicate k 0) → w.grownBy w' v.ownBlock → wpList Try.prog ops Q rest (a.put o.dst v') w') : wpList Try.prog ops Q (o :: rest) a w := by
  obtain ⟨v', w', hr, h2, h3⟩ := run_append_zeros_u8 w o.type base v xs hown k h0 hlen hbase
  exact Lib.wpList_append_run w hgd s x 24 3 ho v _ hs hx v' w' hr (h v' w' h2 h3)

end Go.Proofs.Ytehhgfkbcjbciaa
