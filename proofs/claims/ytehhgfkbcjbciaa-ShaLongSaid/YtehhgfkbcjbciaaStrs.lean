/- Strings appended to a slice of bytes of the call's own. -/
import Derived.Test.YtehhgfkbcjbciaaBytes
namespace Go.Proofs.Ytehhgfkbcjbciaa
open Go.RowKit

/-- a string's bytes -/
def lst (s : ByteArray) : List UInt8 := s.data.toList
theorem lst_len (s : ByteArray) : (lst s).length = s.size := by unfold lst; rw [Array.length_toList]; rfl

theorem firstCells_str {P : Program} (w : World) (size : Nat) (s : ByteArray) : (Builtin.firstCells size s.size (.string s)).run P w = .ok (((lst s).map B).toArray) w := by
  have e : (s.extract 0 s.size).data.map (fun b => Value.int .u8 (b.toNat : Int)) = ((lst s).map B).toArray := by
    rw [ByteArray.extract_zero_size]
    apply Array.ext'
    simp [lst, B]
  simp only [Builtin.firstCells, e, Sem.run_pure]

theorem run_append_str (w : World) (ty : TypeId) (base : Nat) (v : Value) (xs : List UInt8) (hown : OwnB w base v xs) (s : ByteArray) (hlen : xs.length + s.size ≤ 140737488355328) (hbase : base ≤ w.heap.size) :
    ∃ v' w', (Builtin.append_ #[24, 9] ty #[v, .string s]).run Try.prog w = .ok v' w' ∧ OwnB w' base v' (xs ++ lst s) ∧ w.grownBy w' v.ownBlock := by
  obtain ⟨i, hi, hz0, hz1, hz2⟩ := info_parts info_u8
  have hls := lst_len s
  have ht := Try.underlying24
  have hu := Try.underlying9
  have hf := fun W : World => firstCells_str (P := Try.prog) W 1 s
  rcases hown.2 with ⟨rfl, hn⟩ | ⟨g, cap, cur, rfl, hbg, hg, hnc, hcm, hcs, htake⟩
  · have hx : xs = [] := List.eq_nil_of_length_eq_zero hn
    subst hx
    by_cases h0 : s.size = 0
    · have hl0 : lst s = [] := List.eq_nil_of_length_eq_zero (by omega)
      refine ⟨.slice none 0 0, w, ?_, by rw [hl0]; exact hown, ⟨rfl, rfl, rfl, Nat.le_refl _, fun _ _ _ => rfl⟩⟩
      have hf0 := hf w
      rw [h0] at hf0
      simp [Builtin.append_, run_underlying ht, run_underlying hu, sizeOf, typeInfo, hi, Builtin.lenOf, h0, hz1, hf0]
    · have hg0 : (0 : Nat) < s.size := by omega
      have hr := run_append_nil_string (P := Try.prog) (w := w) 24 9 ty 5 i (.int .u8 0) ht hu hi hz0 s hg0 (by omega) (by rw [hz2]; omega)
      refine ⟨_, _, hr, ?_, ⟨rfl, rfl, rfl, by simp, fun k hk _ => Below.heap_alloc w.drew _ k hk⟩⟩
      have e : s.data.map (fun b => Value.int .u8 (b.toNat : Int)) = ((lst s).map B).toArray := by
        apply Array.ext'; simp [lst, B]
      rw [e]
      unfold OwnB
      rw [List.nil_append, hls]
      refine ⟨by simp [hls], .inr ⟨w.heap.size, grownCap w s.size 0 5, _, rfl, hbase, heap_alloc_new w.drew _, grownCap_ge w _ _ _, grownCap_le_maxLen w _ _ _ (by unfold maxLen; omega), ?_, ?_⟩⟩
      · have h := grownCap_ge w s.size 0 5
        simp only [Array.size_append, List.size_toArray, size_zeroCells, List.length_map, hls]
        show s.size + (_ - _) * 1 = _ * 1
        omega
      · rw [Nat.mul_one, Array.toList_append]
        exact List.take_left' (by simp [hls])
  · by_cases hroom : xs.length + s.size ≤ cap
    · have hst := run_storeCells_at Try.prog g xs.length 5 ((lst s).map B) 0 cur w hg (by simp [hls]; omega) (one_B _)
      simp only [Nat.add_zero] at hst
      refine ⟨.slice (some ⟨g, 0, none⟩) (xs.length + s.size) cap, w.setRow g (cur.toList.take xs.length ++ (lst s).map B ++ cur.toList.drop (xs.length + ((lst s).map B).length)).toArray, ?_, ?_, ?_⟩
      · simp [Builtin.append_, run_underlying ht, run_underlying hu, sizeOf, typeInfo, hi, Builtin.lenOf, hroom, hf, hz1, Addr.add_lit, hst]
      · unfold OwnB
        rw [List.length_append, hls, List.map_append]
        have htk : cur.toList.take xs.length = xs.map B := by simpa using htake
        have hlen2 : (xs.map B ++ (lst s).map B).length = xs.length + s.size := by simp [hls]
        refine ⟨by simp [hls], .inr ⟨g, cap, _, rfl, hbg, setRow_heap w g cur _ 5 _ hg, hroom, hcm, ?_, ?_⟩⟩
        · simp only [List.size_toArray, List.length_append, List.length_take, List.length_drop, Array.length_toList, List.length_map, hls]
          omega
        · rw [htk, Nat.mul_one, ← hlen2]
          exact List.take_left
      · exact ⟨rfl, rfl, rfl, by simp, fun k _ hk => setRow_other w g k _ (fun e => hk (by simp [Value.ownBlock, e]))⟩
    · have hg0 : cap < xs.length + s.size := by omega
      have holds : ∀ j u, (xs.map B)[j]? = some u → w.cell? ((⟨g, 0, none⟩ : Addr).add j) = some u := hown.cells (g := g) rfl
      have h63' : ¬ (9223372036854775807 < ((xs.length : Int) + (s.size : Int))) := by omega
      have h48' : ¬ (281474976710656 < Builtin.nextslicecap (xs.length + s.size) cap * i.bytes) := by
        have := growslice_fits (bytes := i.bytes) hg0 (by rw [hz2]; omega)
        omega
      have hfo := run_firstCells_some (P := Try.prog) w.drew 1 xs.length ⟨g, 0, none⟩ xs.length cap (xs.map B) (by simp) (by simpa using holds)
      refine ⟨.slice (some ⟨w.heap.size, 0, none⟩) (xs.length + s.size) (grownCap w (xs.length + s.size) cap 5), w.drew.alloc (.cells ((xs.map B).toArray ++ ((lst s).map B).toArray ++ Builtin.zeroCells (Value.int .u8 0).cells (grownCap w (xs.length + s.size) cap 5 - (xs.length + s.size))) 5), ?_, ?_, ⟨rfl, rfl, rfl, by simp, fun k hk _ => Below.heap_alloc w.drew _ k hk⟩⟩
      · simp [Builtin.append_, run_underlying ht, run_underlying hu, sizeOf, typeInfo, zeroValue, hi, hz0, hz1, Builtin.lenOf, hroom, h63', h48', Question.forced, hf, hfo, newRow, grownCap]
        congr 2
        apply Array.ext'
        simp [List.append_assoc]
      · unfold OwnB
        rw [List.length_append, hls, List.map_append]
        refine ⟨by simp [hls], .inr ⟨w.heap.size, grownCap w (xs.length + s.size) cap 5, _, rfl, hbase, heap_alloc_new w.drew _, grownCap_ge w _ _ _, grownCap_le_maxLen w _ _ _ (by unfold maxLen; omega), ?_, ?_⟩⟩
        · have h := grownCap_ge w (xs.length + s.size) cap 5
          simp only [Array.size_append, List.size_toArray, size_zeroCells, List.length_map, hls]
          show xs.length + s.size + (_ - _) * 1 = _ * 1
          omega
        · rw [Nat.mul_one, Array.toList_append, Array.toList_append]
          exact List.take_left' (by simp [hls])

theorem wpList_append_str {ops : Array Oper} {rest : List Oper} {o : Oper} {a : Act} {Q : Exit → Act → World → Prop} {w : World} (hgd : o.guard = none) (s x : Operand)
    (ho : o.op = .call { callee := .builtin .append, args := #[s, x], argTypes := #[24, 9] })
    (base : Nat) (v : Value) (xs : List UInt8) (hs : a.eval s = v) (hown : OwnB w base v xs) (t : ByteArray) (hx : a.eval x = .string t)
    (hlen : xs.length + t.size ≤ 140737488355328) (hbase : base ≤ w.heap.size)
    (h : ∀ v' w', OwnB w' base v' (xs ++ lst t) → w.grownBy w' v.ownBlock → wpList Try.prog ops Q rest (a.put o.dst v') w') : wpList Try.prog ops Q (o :: rest) a w := by
  obtain ⟨v', w', hr, h2, h3⟩ := run_append_str w o.type base v xs hown t hlen hbase
  refine wpList_plain hgd fun K hK => ?_
  unfold Oper.wp execOp
  simp only [ho, resolve, invoke, builtin, Sem.run_bind, Sem.run_pure, Result.andThen_ok, List.map_toArray, List.map_cons, List.map_nil, hs, hx, hr]
  exact hK _ _ (h v' w' h2 h3)

theorem wp_append_str {o : Oper} {a : Act} {K : Act → World → Prop} {Q : Exit → Act → World → Prop} {w : World} (s x : Operand)
    (ho : o.op = .call { callee := .builtin .append, args := #[s, x], argTypes := #[24, 9] })
    (base : Nat) (v : Value) (xs : List UInt8) (hs : a.eval s = v) (hown : OwnB w base v xs) (t : ByteArray) (hx : a.eval x = .string t)
    (hlen : xs.length + t.size ≤ 140737488355328) (hbase : base ≤ w.heap.size)
    (h : ∀ v' w', OwnB w' base v' (xs ++ lst t) → w.grownBy w' v.ownBlock → K (a.put o.dst v') w') :
    Oper.wp Try.prog o a w K Q := by
  obtain ⟨v', w', hr, h2, h3⟩ := run_append_str w o.type base v xs hown t hlen hbase
  unfold Oper.wp execOp
  simp only [ho, resolve, invoke, builtin, Sem.run_bind, Sem.run_pure, Result.andThen_ok, List.map_toArray, List.map_cons, List.map_nil, hs, hx, hr]
  exact h v' w' h2 h3

end Go.Proofs.Ytehhgfkbcjbciaa
