/- A slice of bytes in a block of the call's own, from anywhere in it: cut, appended to. Two rows written. -/
import Derived.Test.YtehhgfkbcjbciaaBytes
import Derived.Laws.CopyRow
namespace Go.Proofs.Ytehhgfkbcjbciaa
open Go.RowKit

/-- a slice of bytes in a block of the call's own, from anywhere in it -/
def OwnM (w : World) (base : Nat) (v : Value) (l : List UInt8) : Prop :=
  (v = .slice none 0 0 ∧ l = []) ∨
  ∃ g off cap cur, v = .slice (some ⟨g, off, none⟩) l.length cap ∧ base ≤ g ∧ w.heap[g]? = some (.cells cur 5 (0, 0)) ∧ l.length ≤ cap ∧ cap ≤ maxLen ∧ off + cap ≤ cur.size ∧ (cur.toList.drop off).take l.length = l.map B

/-- w' is w with new blocks; of the old ones only g and r may differ -/
structure Two (w w' : World) (g : Nat) (r : Option Nat) : Prop where
  os : w'.os = w.os
  tape : w'.tape = w.tape
  output : w'.output = w.output
  size : w.heap.size ≤ w'.heap.size
  block : ∀ k, k < w.heap.size → k ≠ g → some k ≠ r → w'.heap[k]? = w.heap[k]?

/-- the block of a slice is this one, or none, or a new one -/
def Later (n : Nat) (old : Option Nat) (v : Value) : Prop := v.ownBlock = old ∨ ∃ k, v.ownBlock = some k ∧ n ≤ k

theorem OwnB.alloc {w : World} {base : Nat} {v : Value} {l : List UInt8} (h : OwnB w base v l) (o : Obj) : OwnB (w.alloc o) base v l := h.below ((Below.refl _ _).alloc (Nat.le_refl _) _)

theorem OwnB.slice' {w : World} {base : Nat} {v : Value} {l : List UInt8} (h : OwnB w base v l) :
    ∃ A n c, v = .slice A n c ∧ Hid (n = l.length) ∧ n ≤ c ∧ c ≤ maxLen ∧ RdB w w.heap.size A l := by
  obtain ⟨A, c, hv, h1, h2, h3, _⟩ := h.slice
  exact ⟨A, l.length, c, hv, Lib.hid rfl, h1, h2, h3⟩

theorem OwnM.nil (w : World) (base : Nat) : OwnM w base (.slice none 0 0) [] := .inl ⟨rfl, rfl⟩

theorem OwnB.mid {w : World} {base : Nat} {v : Value} {l : List UInt8} (h : OwnB w base v l) : OwnM w base v l := by
  rcases h.2 with ⟨rfl, hn⟩ | ⟨g, cap, cur, rfl, hb, hg, hnc, hcm, hcs, ht⟩
  · exact .inl ⟨rfl, List.eq_nil_of_length_eq_zero hn⟩
  · exact .inr ⟨g, 0, cap, cur, rfl, hb, hg, hnc, hcm, by omega, by simpa using ht⟩

theorem OwnM.base {w : World} {base base' : Nat} {v : Value} {l : List UInt8} (h : OwnM w base v l) (hb : base' ≤ base) : OwnM w base' v l := by
  rcases h with h | ⟨g, off, cap, cur, hv, hg, r⟩
  · exact .inl h
  · exact .inr ⟨g, off, cap, cur, hv, by omega, r⟩

theorem OwnM.lt {w : World} {base : Nat} {v : Value} {l : List UInt8} (h : OwnM w base v l) : ∀ g, v.ownBlock = some g → base ≤ g ∧ g < w.heap.size := by
  intro g hg
  rcases h with ⟨rfl, _⟩ | ⟨g', off, cap, cur, rfl, hb, hh, _⟩
  · cases hg
  · have e : g' = g := by simpa [Value.ownBlock] using hg
    subst e
    exact ⟨hb, (Array.getElem?_eq_some_iff.1 hh).1⟩

theorem OwnM.keep {w w' : World} {base : Nat} {v : Value} {l : List UInt8} (h : OwnM w base v l) (hk : ∀ g, v.ownBlock = some g → w'.heap[g]? = w.heap[g]?) : OwnM w' base v l := by
  rcases h with h | ⟨g, off, cap, cur, rfl, hb, hg, r⟩
  · exact .inl h
  · exact .inr ⟨g, off, cap, cur, rfl, hb, (hk g rfl).trans hg, r⟩

theorem OwnM.below {w w' : World} {base D : Nat} {v : Value} {l : List UInt8} (h : OwnM w base v l) (hb : Below D w w') (hD : ∀ g, v.ownBlock = some g → g < D) : OwnM w' base v l := h.keep fun g hg => hb.block g (hD g hg)

theorem OwnM.grown {w w' : World} {base : Nat} {v : Value} {l : List UInt8} {row : Option Nat} (h : OwnM w base v l) (hb : w.grownBy w' row) (hr : ∀ g, v.ownBlock = some g → some g ≠ row) : OwnM w' base v l :=
  h.keep fun g hg => hb.block g (h.lt g hg).2 (hr g hg)

theorem OwnM.two {w w' : World} {base g : Nat} {v : Value} {l : List UInt8} {r : Option Nat} (h : OwnM w base v l) (hb : Two w w' g r) (hg : v.ownBlock ≠ some g) (hr : v.ownBlock = none ∨ v.ownBlock ≠ r) : OwnM w' base v l :=
  h.keep fun k hk => hb.block k (h.lt k hk).2 (fun e => hg (by rw [hk, e])) (fun e => hr.elim (fun h1 => by rw [hk] at h1; cases h1) (fun h1 => h1 (by rw [hk, e])))

theorem OwnM.slice {w : World} {base : Nat} {v : Value} {l : List UInt8} (h : OwnM w base v l) :
    ∃ A c, v = .slice A l.length c ∧ l.length ≤ c ∧ c ≤ maxLen ∧ RdB w w.heap.size A l := by
  rcases h with ⟨rfl, rfl⟩ | ⟨g, off, cap, cur, rfl, hb, hg, hnc, hcm, hcs, ht⟩
  · exact ⟨none, 0, rfl, by simp, by simp, Rd.nil _ _ _⟩
  · refine ⟨some ⟨g, off, none⟩, cap, rfl, hnc, hcm, fun _ => ⟨g, off, rfl, (Array.getElem?_eq_some_iff.1 hg).1, fun j hj => ?_⟩⟩
    rw [List.length_map] at hj
    rw [cell_of_row w g (off + j) cur 5 (0, 0) hg, ← ht, List.getElem?_take, if_pos hj, List.getElem?_drop, Array.getElem?_toList]

theorem OwnM.slice' {w : World} {base : Nat} {v : Value} {l : List UInt8} (h : OwnM w base v l) :
    ∃ A n c, v = .slice A n c ∧ Hid (n = l.length) ∧ n ≤ c ∧ c ≤ maxLen ∧ RdB w w.heap.size A l := by
  obtain ⟨A, c, hv, h1, h2, h3⟩ := h.slice
  exact ⟨A, l.length, c, hv, Lib.hid rfl, h1, h2, h3⟩

theorem OwnM.ne {w : World} {base : Nat} {v : Value} {l : List UInt8} (h : OwnM w base v l) {g : Nat} {t : TypeId} {cs : Array Value} (hg : Blk w g t cs) (ht : t ≠ 5) : v.ownBlock ≠ some g := by
  rcases h with ⟨rfl, _⟩ | ⟨g', off, cap, cur, rfl, _, hh, _⟩
  · simp [Value.ownBlock]
  · intro he
    have e : g' = g := by simpa [Value.ownBlock] using he
    subst e
    unfold Blk at hg
    rw [hh] at hg
    injection hg with hg
    injection hg with _ h2
    exact ht h2.symm

/-- cut from k on -/
theorem OwnM.cut {w : World} {base c : Nat} {A : Option Addr} {l : List UInt8} (h : OwnM w base (.slice A l.length c) l) (k : Nat) (hk : k ≤ l.length) (hpos : 0 < l.length) :
    OwnM w base (sliced A k l.length c 1) (l.drop k) ∧ (sliced A k l.length c 1).ownBlock = (Value.slice A l.length c).ownBlock := by
  rcases h with ⟨_, rfl⟩ | ⟨g, off, cap, cur, hv, hb, hg, hnc, hcm, hcs, ht⟩
  · simp at hpos
  · injection hv with h1 h2 h3
    subst h1 h3
    unfold sliced
    by_cases hc : c = k
    · subst hc
      rw [if_pos rfl]
      refine ⟨.inr ⟨g, off, 0, cur, ?_, hb, hg, ?_, by simp, by omega, ?_⟩, rfl⟩
      · rw [List.length_drop]; congr 1; omega
      · rw [List.length_drop]; omega
      · rw [List.length_drop, show l.length - c = 0 from by omega, List.take_zero, List.drop_eq_nil_of_le hnc]; rfl
    · rw [if_neg hc, Option.map_some, add_flat, Nat.mul_one]
      refine ⟨.inr ⟨g, off + k, c - k, cur, ?_, hb, hg, ?_, by omega, by omega, ?_⟩, rfl⟩
      · rw [List.length_drop]
      · rw [List.length_drop]; omega
      · rw [List.length_drop, ← List.drop_drop, List.map_drop, ← ht, List.drop_take]

theorem later_refl (n : Nat) (v : Value) : Later n v.ownBlock v := .inl rfl

theorem run_append_mid (w : World) (ty : TypeId) (base : Nat) (v : Value) (xs : List UInt8) (hown : OwnM w base v xs) (D : Nat) (A : Option Addr) (m c : Nat) (l : List UInt8) (hm : m = l.length) (hr : RdB w D A l)
    (hlen : xs.length + l.length ≤ 140737488355328) (hbase : base ≤ w.heap.size) :
    ∃ v' w', (Builtin.append_ #[24, 24] ty #[v, .slice A m c]).run Try.prog w = .ok v' w' ∧ OwnM w' base v' (xs ++ l) ∧ w.grownBy w' v.ownBlock ∧ Later w.heap.size v.ownBlock v' := by
  obtain ⟨i, hi, hz0, hz1, hz2⟩ := info_parts info_u8
  subst hm
  have ht := Try.underlying24
  rcases hown with ⟨rfl, rfl⟩ | ⟨g, off, cap, cur, rfl, hb, hg, hnc, hcm, hcs, htk⟩
  · obtain ⟨v', w', h1, h2, h3⟩ := run_append_u8 w ty w.heap.size _ [] (OwnB.nil w _) D A l.length c l rfl hr hlen (Nat.le_refl _)
    refine ⟨v', w', h1, h2.mid.base hbase, h3, ?_⟩
    obtain ⟨_, _, _, _, _, _, hgb⟩ := h2.slice
    cases e : v'.ownBlock with
    | none => exact .inl (by rw [e]; rfl)
    | some k => exact .inr ⟨k, e, (hgb k e).1⟩
  · by_cases hroom : xs.length + l.length ≤ cap
    · have hf : (Builtin.firstCells 1 l.length (.slice A l.length c)).run Try.prog w = .ok ((l.map B).toArray) w := by
        rcases A with _ | ad
        · have hl : l = [] := by
            cases l with
            | nil => rfl
            | cons y l' => obtain ⟨b, o, e, _⟩ := hr (by simp); cases e
          subst hl
          simp [Builtin.firstCells]
        · refine run_firstCells_some (P := Try.prog) w 1 l.length ad l.length c (l.map B) (by simp) (fun j u hu => ?_)
          have hj : j < (l.map B).length := (List.getElem?_eq_some_iff.1 hu).1
          obtain ⟨b, o, e, _, hc⟩ := hr (by omega)
          have e := Option.some.inj e
          subst e
          rw [add_flat, hc j hj, hu]
      have hst := run_storeCells_at Try.prog g (off + xs.length) 5 (l.map B) 0 cur w hg (by rw [List.length_map]; omega) (one_B _)
      simp only [Nat.add_zero] at hst
      refine ⟨.slice (some ⟨g, off, none⟩) (xs.length + l.length) cap, w.setRow g (cur.toList.take (off + xs.length) ++ l.map B ++ cur.toList.drop (off + xs.length + (l.map B).length)).toArray, ?_, ?_, ⟨rfl, rfl, rfl, by simp, fun k _ hk => setRow_other w g k _ (fun e => hk (by simp [Value.ownBlock, e]))⟩, .inl rfl⟩
      · simp [Builtin.append_, run_underlying ht, sizeOf, typeInfo, hi, Builtin.lenOf, hroom, hf, hz1, add_flat, hst]
      · refine .inr ⟨g, off, cap, _, by rw [List.length_append], hb, setRow_heap w g cur _ 5 _ hg, by rw [List.length_append]; exact hroom, hcm, ?_, ?_⟩
        · simp only [List.size_toArray, List.length_append, List.length_take, List.length_drop, Array.length_toList, List.length_map]
          omega
        · rw [List.length_append, List.map_append, ← htk, List.append_assoc, List.take_add, List.drop_append_of_le_length (by rw [List.length_take]; have hz : cur.toList.length = cur.size := Array.length_toList; omega)]
          simp only [List.drop_take]
          rw [show off + xs.length - off = xs.length from by omega]
          have hlt : ((cur.toList.drop off).take xs.length ++ (l.map B ++ cur.toList.drop (off + xs.length + (l.map B).length))).length ≥ xs.length + l.length := by
            simp only [List.length_append, List.length_take, List.length_drop, Array.length_toList, List.length_map]
            omega
          have e0 : ((cur.toList.drop off).take xs.length).length = xs.length := by simp; omega
          rw [List.take_left' e0, List.drop_left' e0, List.take_left' (by simp)]
    · obtain ⟨v', w', h1, h2, h3⟩ := run_append_grow_u8 w ty g off cap w.heap.size D xs (fun _ => ⟨g, off, rfl, (Array.getElem?_eq_some_iff.1 hg).1, fun j hj => by
        rw [List.length_map] at hj
        rw [cell_of_row w g (off + j) cur 5 (0, 0) hg, ← htk, List.getElem?_take, if_pos hj, List.getElem?_drop, Array.getElem?_toList]⟩) A c l hr (by omega) (by omega) hlen
      refine ⟨v', w', h1, h2.mid.base hbase, ⟨h3.os, h3.tape, h3.output, h3.size, fun k hk _ => h3.block k hk⟩, ?_⟩
      obtain ⟨A', c', hv, _, _, hrd, hgb⟩ := h2.slice
      cases e : v'.ownBlock with
      | none =>
        exfalso
        subst hv
        rcases A' with _ | a
        · obtain ⟨b, o, e, _⟩ := hrd (by simp; omega)
          cases e
        · simp [Value.ownBlock] at e
      | some k => exact .inr ⟨k, e, (hgb k e).1⟩

theorem wpList_append_mid {ops : Array Oper} {rest : List Oper} {o : Oper} {a : Act} {Q : Exit → Act → World → Prop} {w : World} (hgd : o.guard = none) (s x : Operand)
    (ho : o.op = .call { callee := .builtin .append, args := #[s, x], argTypes := #[24, 24] })
    (base : Nat) (v : Value) (xs : List UInt8) (hs : a.eval s = v) (hown : OwnM w base v xs) (D : Nat) (A : Option Addr) (m c : Nat) (l : List UInt8) (hx : a.eval x = .slice A m c) (hm : m = l.length) (hr : RdB w D A l)
    (hlen : xs.length + l.length ≤ 140737488355328) (hbase : base ≤ w.heap.size)
    (h : ∀ v' w', OwnM w' base v' (xs ++ l) → w.grownBy w' v.ownBlock → Later w.heap.size v.ownBlock v' → wpList Try.prog ops Q rest (a.put o.dst v') w') : wpList Try.prog ops Q (o :: rest) a w := by
  obtain ⟨v', w', hr, h2, h3, h4⟩ := run_append_mid w o.type base v xs hown D A m c l hm hr hlen hbase
  refine wpList_plain hgd fun K hK => ?_
  unfold Oper.wp execOp
  simp only [ho, resolve, invoke, builtin, Sem.run_bind, Sem.run_pure, Result.andThen_ok, List.map_toArray, List.map_cons, List.map_nil, hs, hx, hr]
  exact hK _ _ (h v' w' h2 h3 h4)

/-- 'b[k:]' -/
theorem run_cut_u8 (w : World) (A : Option Addr) (n c k : Nat) (hk : k ≤ n) (K : Int) (hK : K = (k : Int)) :
    (Instr.slice 24 (.slice A n c) (some (.int .i64 K)) none none).run Try.prog w = .ok (sliced A k n c 1) w := by
  obtain ⟨i, hi, hz0, hz1, hz2⟩ := info_parts info_u8
  subst hK
  rw [run_slice_l (P := Try.prog) w 24 A n c Try.underlying24 .i64 (k : Int) (by omega) (by omega)]
  simp [sizeOf, typeInfo, show Try.prog.elem 24 = 5 from by kernel_rfl, hi, hz1, Result.andThen]

theorem wpList_cut_u8 {ops : Array Oper} {rest : List Oper} {o : Oper} {a : Act} {Q : Exit → Act → World → Prop} {w : World} (hgd : o.guard = none) (s x : Operand)
    (ho : o.op = .slice 24 s (some x) none none) (A : Option Addr) (n c k : Nat) (hs : a.eval s = .slice A n c) (hx : a.eval x = .int .i64 (k : Int)) (hk : k ≤ n)
    (h : wpList Try.prog ops Q rest (a.put o.dst (sliced A k n c 1)) w) : wpList Try.prog ops Q (o :: rest) a w := by
  refine wpList_plain hgd fun K hK => ?_
  have hrun := run_cut_u8 w A n c k hk k rfl
  unfold Oper.wp execOp
  simp [ho, hs, hx, run_sliceAt_slice (P := Try.prog) w 24 _ _ _ _ Try.underlying24, hrun, Result.andThen]
  exact hK _ _ h

theorem RdB.rest {w : World} {D : Nat} {A : Option Addr} {l : List UInt8} (h : RdB w D A l) (n c k : Nat) (hn : n = l.length) (hc : n ≤ c) (hk : k ≤ n) :
    ∃ A', sliced A k n c 1 = .slice A' (l.drop k).length (c - k) ∧ RdB w D A' (l.drop k) := by
  subst hn
  unfold sliced
  rw [List.length_drop]
  by_cases hck : c = k
  · refine ⟨_, rfl, ?_⟩
    rw [List.drop_eq_nil_of_le (by omega)]
    exact Rd.nil _ _ _
  · rw [if_neg hck, Nat.mul_one]
    refine ⟨_, rfl, ?_⟩
    have := h.cut k (l.length - k)
    rwa [List.take_of_length_le (by rw [List.length_drop]; exact Nat.le_refl _)] at this

theorem Two.refl (w : World) (g : Nat) (r : Option Nat) : Two w w g r := ⟨rfl, rfl, rfl, Nat.le_refl _, fun _ _ _ _ => rfl⟩

theorem Two.grown {w a b : World} {g : Nat} {r row : Option Nat} (h : Two w a g r) (hb : a.grownBy b row) (hr : ∀ k, row = some k → k = g ∨ some k = r ∨ w.heap.size ≤ k) : Two w b g r :=
  ⟨hb.os.trans h.os, hb.tape.trans h.tape, hb.output.trans h.output, Nat.le_trans h.size hb.size, fun k hk h1 h2 => (hb.block k (Nat.lt_of_lt_of_le hk h.size) (fun e => by
    rcases hr k e.symm with h3 | h3 | h3
    · exact h1 h3
    · exact h2 h3
    · omega)).trans (h.block k hk h1 h2)⟩

theorem Two.set {w a : World} {g : Nat} {r : Option Nat} (h : Two w a g r) (j : Nat) (v : Value) : Two w (a.setCell ⟨g, j, none⟩ v) g r :=
  ⟨h.os, h.tape, h.output, by have := h.size; simpa using this, fun k hk h1 h2 => (Below.heap_setCell a ⟨g, j, none⟩ v k h1).trans (h.block k hk h1 h2)⟩

theorem Two.drew {w a : World} {g : Nat} {r : Option Nat} (h : Two w a g r) : Two w a.drew g r := ⟨h.os, h.tape, h.output, h.size, h.block⟩

theorem Two.below {D : Nat} {w0 w a : World} {g : Nat} {r : Option Nat} (h : Two w a g r) (h0 : Below D w0 w) (hg : D ≤ g) (hr : ∀ k, r = some k → D ≤ k) (hD : D ≤ w.heap.size) : Below D w0 a :=
  ⟨h.os.trans h0.os, h.tape.trans h0.tape, h.output.trans h0.output, Nat.le_trans h0.size h.size, fun k hk => (h.block k (by omega) (by omega) (fun e => by have := hr k e.symm; omega)).trans (h0.block k hk)⟩

end Go.Proofs.Ytehhgfkbcjbciaa
