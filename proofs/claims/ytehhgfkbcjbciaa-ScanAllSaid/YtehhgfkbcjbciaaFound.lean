/- Records and their places: slices of them that are the call's own, append, the plain laws of the scans. -/
import Derived.Test.YtehhgfkbcjbciaaRound
namespace Go.Proofs.Ytehhgfkbcjbciaa
open Go.RowKit

/-- a record and its place, as cells -/
def fcells (f : Nat × Rec) : List Value := .int .i64 (f.1 : Int) :: f.2.cells.toList

def fsCells (l : List (Nat × Rec)) : List Value := l.flatMap fcells

theorem fcells_len (f : Nat × Rec) : (fcells f).length = 7 := rfl

theorem fsCells_len (l : List (Nat × Rec)) : (fsCells l).length = l.length * 7 := by
  induction l with
  | nil => rfl
  | cons f l ih =>
    have : fsCells (f :: l) = fcells f ++ fsCells l := rfl
    rw [this, List.length_append, ih, fcells_len, List.length_cons]; omega

theorem fsCells_append (l m : List (Nat × Rec)) : fsCells (l ++ m) = fsCells l ++ fsCells m := by unfold fsCells; rw [List.flatMap_append]

theorem fsCells_at (l : List (Nat × Rec)) (k j : Nat) (hk : k < l.length) (hj : j < 7) : (fsCells l)[k * 7 + j]? = (fcells l[k])[j]? := by
  induction l generalizing k with
  | nil => simp at hk
  | cons f l ih =>
    have e : fsCells (f :: l) = fcells f ++ fsCells l := rfl
    cases k with
    | zero => rw [e, Nat.zero_mul, Nat.zero_add, List.getElem?_append_left (by rw [fcells_len]; omega)]; rfl
    | succ k =>
      rw [e, List.getElem?_append_right (by rw [fcells_len]; omega), fcells_len, show (k + 1) * 7 + j - 7 = k * 7 + j from by omega, ih k (by simpa using hk)]
      rfl

theorem fone (l : List (Nat × Rec)) : ∀ u ∈ fsCells l, u.oneCell' = true := by
  intro u hu
  unfold fsCells at hu
  rw [List.mem_flatMap] at hu
  obtain ⟨f, _, hf⟩ := hu
  unfold fcells Rec.cells at hf
  simp only [List.mem_cons, List.not_mem_nil, or_false] at hf
  rcases hf with rfl | rfl | rfl | rfl | rfl | rfl | rfl <;> rfl

/-- a slice of finds of the call's own, of the element type E -/
def OwnF (E : TypeId) (w : World) (base : Nat) (v : Value) (l : List (Nat × Rec)) : Prop := w.ownsRow base E 7 v l.length (fsCells l)

/-- a slice of finds that reads as l -/
def RdF (w : World) (D : Nat) (A : Option Addr) (l : List (Nat × Rec)) : Prop := Rd w D A (fsCells l)

theorem OwnF.nil (E : TypeId) (w : World) (base : Nat) : OwnF E w base (.slice none 0 0) [] := World.ownsRow_nil _ _ _ _

theorem OwnF.slice {E : TypeId} {w : World} {base : Nat} {v : Value} {l : List (Nat × Rec)} (h : OwnF E w base v l) :
    ∃ A c, v = .slice A l.length c ∧ l.length ≤ c ∧ c ≤ maxLen ∧ RdF w w.heap.size A l ∧ (∀ g, v.ownBlock = some g → base ≤ g ∧ g < w.heap.size) := by
  have hlt := World.ownsRow.lt h
  rcases h.2 with ⟨rfl, hn⟩ | ⟨g, cap, cur, rfl, hb, hg, hnc, hcm, hcs, ht⟩
  · have hl : l = [] := List.eq_nil_of_length_eq_zero hn
    subst hl
    exact ⟨none, 0, rfl, by simp, by simp, Rd.nil _ _ _, hlt⟩
  · refine ⟨some ⟨g, 0, none⟩, cap, rfl, hnc, hcm, fun hl => ⟨g, 0, rfl, (Array.getElem?_eq_some_iff.1 hg).1, fun j hj => ?_⟩, hlt⟩
    rw [fsCells_len] at hj
    rw [cell_of_row w g (0 + j) cur E (0, 0) hg, ← ht, List.getElem?_take, if_pos (by omega)]
    simp

theorem OwnF.below {E : TypeId} {w w' : World} {base : Nat} {v : Value} {l : List (Nat × Rec)} (h : OwnF E w base v l) (hb : Below w.heap.size w w') : OwnF E w' base v l :=
  World.ownsRow.kept (row := none) h ⟨hb.os, hb.tape, hb.output, hb.size, fun k hk _ => hb.block k hk⟩ (by cases v.ownBlock <;> simp)

theorem OwnF.base {E : TypeId} {w : World} {base base' : Nat} {v : Value} {l : List (Nat × Rec)} (h : OwnF E w base v l) (hb : base' ≤ base) : OwnF E w base' v l := by
  refine ⟨h.1, ?_⟩
  rcases h.2 with h2 | ⟨g, cap, cur, hv, hg, r⟩
  · exact .inl h2
  · exact .inr ⟨g, cap, cur, hv, by omega, r⟩

theorem info_found : (Try.prog.info? 60).map (fun i => (i.zero, i.size, i.bytes)) = some (some (.agg #[.int .i64 0, .int .i64 0, .int .u32 0, .int .u64 0, .int .u64 0, .int .u64 0, .string ⟨#[]⟩]), 7, 64) := by kernel_rfl
theorem info_refFound : (Try.prog.info? 79).map (fun i => (i.zero, i.size, i.bytes)) = some (some (.agg #[.int .i64 0, .int .i64 0, .int .u32 0, .int .u64 0, .int .u64 0, .int .u64 0, .string ⟨#[]⟩]), 7, 64) := by kernel_rfl

/-- a find alone, in a block of its own, is appended -/
theorem run_append_f (T E : TypeId) (w : World) (ty : TypeId) (base : Nat) (v : Value) (l : List (Nat × Rec)) (f : Nat × Rec) (g : Nat) (hT : Try.prog.underlying T = some (.slice E))
    (hE : (Try.prog.info? E).map (fun i => (i.zero, i.size, i.bytes)) = some (some (.agg #[.int .i64 0, .int .i64 0, .int .u32 0, .int .u64 0, .int .u64 0, .int .u64 0, .string ⟨#[]⟩]), 7, 64))
    (hown : OwnF E w base v l) (hb : Blk w g E (fcells f).toArray) (hlen : l.length ≤ 1000000) (hbase : base ≤ w.heap.size) :
    ∃ v' w', (Builtin.append_ #[T, T] ty #[v, .slice (some ⟨g, 0, none⟩) 1 1]).run Try.prog w = .ok v' w' ∧ OwnF E w' base v' (l ++ [f]) ∧ w.grownBy w' v.ownBlock := by
  obtain ⟨i, hi, hz0, hz1, hz2⟩ := info_parts hE
  have hn : ∀ j u, (fcells f)[j]? = some u → w.cell? ((⟨g, 0, none⟩ : Addr).add j) = some u := by
    intro j u hu
    rw [add_flat, Nat.zero_add, hb.cell j]
    simpa using hu
  obtain ⟨v', w', h1, h2, h3, _⟩ := run_append_own (P := Try.prog) (w := w) base T ty E i _ 7 64 hT hi hz0 hz1 hz2 rfl (by decide) v _ _ hown ⟨g, 0, none⟩ 1 1 (fcells f) rfl hn
    (fun u hu => fone [f] u (by simpa [fsCells] using hu)) (by unfold maxLen; omega) (by omega) hbase
  refine ⟨v', w', h1, ?_, h3⟩
  unfold OwnF
  rw [List.length_append, fsCells_append]
  have : fsCells [f] = fcells f := by simp [fsCells]
  rw [this]
  exact h2

theorem wpList_append_f (T E : TypeId) {ops : Array Oper} {rest : List Oper} {o : Oper} {a : Act} {Q : Exit → Act → World → Prop} {w : World} (hgd : o.guard = none) (s x : Operand)
    (ho : o.op = .call { callee := .builtin .append, args := #[s, x], argTypes := #[T, T] }) (hT : Try.prog.underlying T = some (.slice E))
    (hE : (Try.prog.info? E).map (fun i => (i.zero, i.size, i.bytes)) = some (some (.agg #[.int .i64 0, .int .i64 0, .int .u32 0, .int .u64 0, .int .u64 0, .int .u64 0, .string ⟨#[]⟩]), 7, 64))
    (base : Nat) (v : Value) (l : List (Nat × Rec)) (f : Nat × Rec) (g : Nat) (hs : a.eval s = v) (hown : OwnF E w base v l) (hx : a.eval x = .slice (some ⟨g, 0, none⟩) 1 1) (hb : Blk w g E (fcells f).toArray)
    (hlen : l.length ≤ 1000000) (hbase : base ≤ w.heap.size)
    (h : ∀ v' w', OwnF E w' base v' (l ++ [f]) → w.grownBy w' v.ownBlock → wpList Try.prog ops Q rest (a.put o.dst v') w') : wpList Try.prog ops Q (o :: rest) a w := by
  obtain ⟨v', w', hr, h2, h3⟩ := run_append_f T E w o.type base v l f g hT hE hown hb hlen hbase
  refine wpList_plain hgd fun K hK => ?_
  unfold Oper.wp execOp
  simp only [ho, resolve, invoke, builtin, Sem.run_bind, Sem.run_pure, Result.andThen_ok, List.map_toArray, List.map_cons, List.map_nil, hs, hx, hr]
  exact hK _ _ (h v' w' h2 h3)

theorem wp_append_f (T E : TypeId) {o : Oper} {a : Act} {K : Act → World → Prop} {Q : Exit → Act → World → Prop} {w : World} (s x : Operand)
    (ho : o.op = .call { callee := .builtin .append, args := #[s, x], argTypes := #[T, T] }) (hT : Try.prog.underlying T = some (.slice E))
    (hE : (Try.prog.info? E).map (fun i => (i.zero, i.size, i.bytes)) = some (some (.agg #[.int .i64 0, .int .i64 0, .int .u32 0, .int .u64 0, .int .u64 0, .int .u64 0, .string ⟨#[]⟩]), 7, 64))
    (base : Nat) (v : Value) (l : List (Nat × Rec)) (f : Nat × Rec) (g : Nat) (hs : a.eval s = v) (hown : OwnF E w base v l) (hx : a.eval x = .slice (some ⟨g, 0, none⟩) 1 1) (hb : Blk w g E (fcells f).toArray)
    (hlen : l.length ≤ 1000000) (hbase : base ≤ w.heap.size)
    (h : ∀ v' w', OwnF E w' base v' (l ++ [f]) → w.grownBy w' v.ownBlock → K (a.put o.dst v') w') : Oper.wp Try.prog o a w K Q := by
  obtain ⟨v', w', hr, h2, h3⟩ := run_append_f T E w o.type base v l f g hT hE hown hb hlen hbase
  unfold Oper.wp execOp
  simp only [ho, resolve, invoke, builtin, Sem.run_bind, Sem.run_pure, Result.andThen_ok, List.map_toArray, List.map_cons, List.map_nil, hs, hx, hr]
  exact h v' w' h2 h3

/-! ### The plain laws -/
theorem dec_err (l : List UInt8) : (dec l).2.2 = 0 ∨ (dec l).2.2 = 4 ∨ (dec l).2.2 = 11 := by
  unfold dec
  split
  · simp
  · split
    · simp
    · split
      · simp
      · split
        · simp
        · split <;> simp

theorem dec_ok {l : List UInt8} (h : (dec l).2.2 = 0) : 39 ≤ (dec l).2.1 ∧ (dec l).2.1 ≤ l.length := by
  unfold dec at h ⊢
  split at h
  · simp at h
  · rw [if_neg (by assumption)]
    split at h
    · simp at h
    · rw [if_neg (by assumption)]
      split at h
      · simp at h
      · rw [if_neg (by assumption)]
        split at h
        · simp at h
        · rw [if_neg (by assumption)]
          split at h
          · rw [if_pos (by assumption)]
            simp only
            omega
          · simp at h

/-- all records among bytes, from a place on -/
def allS (l : List UInt8) (at_ : Nat) : List (Nat × Rec) :=
  if at_ < l.length then
    if (dec (l.drop at_)).2.2 = 0 ∧ 0 < (dec (l.drop at_)).2.1 then (at_, (dec (l.drop at_)).1) :: allS l (at_ + (dec (l.drop at_)).2.1) else allS l (at_ + 1)
  else []
termination_by l.length - at_
decreasing_by all_goals omega

theorem allS_end {l : List UInt8} {k : Nat} (h : l.length ≤ k) : allS l k = [] := by rw [allS, if_neg (by omega)]
theorem allS_hit {l : List UInt8} {k : Nat} (hk : k < l.length) (h : (dec (l.drop k)).2.2 = 0) : allS l k = (k, (dec (l.drop k)).1) :: allS l (k + (dec (l.drop k)).2.1) := by
  rw [allS, if_pos hk, if_pos ⟨h, by have := (dec_ok h).1; omega⟩]
theorem allS_miss {l : List UInt8} {k : Nat} (hk : k < l.length) (h : (dec (l.drop k)).2.2 ≠ 0) : allS l k = allS l (k + 1) := by
  rw [allS, if_pos hk, if_neg (fun h2 => h h2.1)]

/-- the records that stand one behind the other from a place on, and where they end -/
def frontS (l : List UInt8) (at_ : Nat) : List (Nat × Rec) × Nat :=
  if at_ < l.length then
    if (dec (l.drop at_)).2.2 = 0 ∧ 0 < (dec (l.drop at_)).2.1 then ((at_, (dec (l.drop at_)).1) :: (frontS l (at_ + (dec (l.drop at_)).2.1)).1, (frontS l (at_ + (dec (l.drop at_)).2.1)).2) else ([], at_)
  else ([], at_)
termination_by l.length - at_
decreasing_by all_goals omega

theorem frontS_end {l : List UInt8} {k : Nat} (h : l.length ≤ k) : frontS l k = ([], k) := by rw [frontS, if_neg (by omega)]
theorem frontS_hit {l : List UInt8} {k : Nat} (hk : k < l.length) (h : (dec (l.drop k)).2.2 = 0) : frontS l k = ((k, (dec (l.drop k)).1) :: (frontS l (k + (dec (l.drop k)).2.1)).1, (frontS l (k + (dec (l.drop k)).2.1)).2) := by
  rw [frontS, if_pos hk, if_pos ⟨h, by have := (dec_ok h).1; omega⟩]
theorem frontS_miss {l : List UInt8} {k : Nat} (h : (dec (l.drop k)).2.2 ≠ 0) : frontS l k = ([], k) := by
  rw [frontS]
  split
  · rw [if_neg (fun h2 => h h2.1)]
  · rfl

end Go.Proofs.Ytehhgfkbcjbciaa
