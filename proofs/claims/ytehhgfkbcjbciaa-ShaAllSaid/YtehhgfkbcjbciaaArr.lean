/- Arrays in blocks of their own: made, loaded, stored whole. -/
import Derived.Test.YtehhgfkbcjbciaaBytes
import Derived.Deep.WholeRow
namespace Go.Proofs.Ytehhgfkbcjbciaa
open Go.RowKit

theorem zero_row {T : TypeId} {cs : Array Value} (h : (Try.prog.info? T).map (fun i => (i.zero, i.size)) = some (some (.agg cs), cs.size)) :
    (∀ w, (zeroValue T).run Try.prog w = .ok (.agg cs) w) ∧ (Try.prog.info? T).map (·.size) = some cs.size := zero_of_info h

theorem wp_alloc_row {o : Oper} {a : Act} {K : Act → World → Prop} {Q : Exit → Act → World → Prop} {w : World} (T : TypeId) (ho : o.op = .alloc T) (cs : Array Value)
    (hz : (Try.prog.info? T).map (fun i => (i.zero, i.size)) = some (some (.agg cs), cs.size)) (h : K (a.put o.dst (.pointer (some ⟨w.heap.size, 0, none⟩))) (w.alloc (.cells cs T))) : o.wp Try.prog a w K Q := by
  unfold Oper.wp execOp
  simp [ho, Instr.alloc, newVar, newRow, (zero_row hz).1, Value.cells, Result.andThen]
  exact h

theorem wpList_alloc_row {ops : Array Oper} {rest : List Oper} {o : Oper} {a : Act} {Q : Exit → Act → World → Prop} {w : World} (hgd : o.guard = none) (T : TypeId) (ho : o.op = .alloc T) (cs : Array Value)
    (hz : (Try.prog.info? T).map (fun i => (i.zero, i.size)) = some (some (.agg cs), cs.size)) (h : wpList Try.prog ops Q rest (a.put o.dst (.pointer (some ⟨w.heap.size, 0, none⟩))) (w.alloc (.cells cs T))) : wpList Try.prog ops Q (o :: rest) a w :=
  wpList_plain hgd fun _ hK => wp_alloc_row T ho cs hz (hK _ _ h)

theorem wp_load_row {o : Oper} {a : Act} {K : Act → World → Prop} {Q : Exit → Act → World → Prop} {w : World} (T : TypeId) (x : Operand) (ho : o.op = .load T x) (g : Nat) (t : TypeId) (cs : Array Value) (hx : a.eval x = .pointer (some ⟨g, 0, none⟩))
    (hb : Blk w g t cs) (n : Nat) (e : TypeId) (hu : Try.prog.underlying T = some (.array n e)) (hi : (Try.prog.info? T).map (·.size) = some cs.size) (h : K (a.put o.dst (.agg cs)) w) : o.wp Try.prog a w K Q := by
  unfold Oper.wp execOp
  simp only [ho, hx, Instr.loadAt, Instr.sureAddr, Sem.run_bind, Sem.run_pure, Result.andThen_ok, run_loadVar_row w g t T cs (0, 0) _ hb hu rfl hi]
  exact h

theorem wpList_load_row' {ops : Array Oper} {rest : List Oper} {o : Oper} {a : Act} {Q : Exit → Act → World → Prop} {w : World} (hgd : o.guard = none) (T : TypeId) (x : Operand) (ho : o.op = .load T x) (g : Nat) (t : TypeId) (cs : Array Value) (hx : a.eval x = .pointer (some ⟨g, 0, none⟩))
    (hb : Blk w g t cs) (n : Nat) (e : TypeId) (hu : Try.prog.underlying T = some (.array n e)) (hi : (Try.prog.info? T).map (·.size) = some cs.size) (h : wpList Try.prog ops Q rest (a.put o.dst (.agg cs)) w) : wpList Try.prog ops Q (o :: rest) a w :=
  wpList_plain hgd fun _ hK => wp_load_row T x ho g t cs hx hb n e hu hi (hK _ _ h)

theorem wp_store_row {o : Oper} {a : Act} {K : Act → World → Prop} {Q : Exit → Act → World → Prop} {w : World} (T : TypeId) (x y : Operand) (ho : o.op = .store T x y) (g : Nat) (t : TypeId) (old cs : Array Value) (hx : a.eval x = .pointer (some ⟨g, 0, none⟩)) (hy : a.eval y = .agg cs)
    (hb : Blk w g t old) (hs : old.size = cs.size) (h1 : cs.all (·.oneCell') = true) (hi : (Try.prog.info? T).map (·.size) = some cs.size)
    (h : ∀ w', Blk w' g t cs → w.grownBy w' (some g) → w'.heap.size = w.heap.size → K (a.put o.dst undef) w') : o.wp Try.prog a w K Q := by
  unfold Oper.wp execOp
  simp only [ho, hx, hy, Instr.storeAt, Instr.sureAddr, Sem.run_bind, Sem.run_pure, Result.andThen_ok, run_storeVar_row w g t T old cs hb hi hs h1]
  exact h _ (setRow_heap w g old cs t (0, 0) hb) ⟨rfl, rfl, rfl, by simp, fun k _ hk => setRow_other w g k cs (fun e => hk (by rw [e]))⟩ (by simp)

theorem wpList_store_row {ops : Array Oper} {rest : List Oper} {o : Oper} {a : Act} {Q : Exit → Act → World → Prop} {w : World} (hgd : o.guard = none) (T : TypeId) (x y : Operand) (ho : o.op = .store T x y) (g : Nat) (t : TypeId) (old cs : Array Value) (hx : a.eval x = .pointer (some ⟨g, 0, none⟩)) (hy : a.eval y = .agg cs)
    (hb : Blk w g t old) (hs : old.size = cs.size) (h1 : cs.all (·.oneCell') = true) (hi : (Try.prog.info? T).map (·.size) = some cs.size)
    (h : ∀ w', Blk w' g t cs → w.grownBy w' (some g) → w'.heap.size = w.heap.size → wpList Try.prog ops Q rest (a.put o.dst undef) w') : wpList Try.prog ops Q (o :: rest) a w :=
  wpList_plain hgd fun _ hK => wp_store_row T x y ho g t old cs hx hy hb hs h1 hi fun w' h1 h2 h3 => hK _ _ (h w' h1 h2 h3)

theorem wpList_build_row {ops : Array Oper} {rest : List Oper} {o : Oper} {a : Act} {Q : Exit → Act → World → Prop} {w : World} (hgd : o.guard = none) (T : TypeId) (parts : Array (Nat × Operand)) (_ho : o.op = .build T parts) (v : Value)
    (hrun : (execOp a.eval o).run Try.prog w = .ok (.value v) w) (h : wpList Try.prog ops Q rest (a.put o.dst v) w) : wpList Try.prog ops Q (o :: rest) a w :=
  wpList_plain hgd fun _ hK => by
    unfold Oper.wp
    rw [hrun]
    exact hK _ _ h

/-- an array result that lies in a block known whole -/
theorem load_row (w : World) (T : TypeId) (g : Nat) (t : TypeId) (cs : Array Value) (hb : Blk w g t cs) (n : Nat) (e : TypeId) (hu : Try.prog.underlying T = some (.array n e)) (hi : (Try.prog.info? T).map (·.size) = some cs.size) :
    (loadVar T ⟨g, 0, none⟩).run Try.prog w = .ok (.agg cs) w := run_loadVar_row w g t T cs (0, 0) _ hb hu rfl hi

end Go.Proofs.Ytehhgfkbcjbciaa
