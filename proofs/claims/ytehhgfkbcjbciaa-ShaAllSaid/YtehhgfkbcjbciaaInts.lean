/- Slices of numbers of the call's own: []uint64, []int. -/
import Derived.Test.YtehhgfkbcjbciaaMid
import Derived.Maps.AppendAt
namespace Go.Proofs.Ytehhgfkbcjbciaa
open Go.RowKit

/-- a number as a value -/
def NV (k : IntKind) (x : Nat) : Value := .int k (x : Int)

/-- a slice of numbers of the call's own -/
def OwnI (k : IntKind) (e : TypeId) (w : World) (base : Nat) (v : Value) (l : List Nat) : Prop := w.ownsRow base e 1 v l.length (l.map (NV k))

/-- a slice of numbers that reads as l -/
def RdI (k : IntKind) (w : World) (D : Nat) (A : Option Addr) (l : List Nat) : Prop := Rd w D A (l.map (NV k))

/-- numbers as cells -/
def ncells (k : IntKind) (l : List Nat) : Array Value := (l.map (NV k)).toArray

variable {k : IntKind} {e T : TypeId}

theorem OwnI.nil (w : World) (base : Nat) : OwnI k e w base (.slice none 0 0) [] := World.ownsRow_nil _ _ _ _

theorem OwnI.slice' {w : World} {base : Nat} {v : Value} {l : List Nat} (h : OwnI k e w base v l) :
    ∃ A n c, v = .slice A n c ∧ Hid (n = l.length) ∧ n ≤ c ∧ c ≤ maxLen ∧ RdI k w w.heap.size A l := by
  rcases h.2 with ⟨rfl, hn⟩ | ⟨g, cap, cur, rfl, hb, hg, hnc, hcm, hcs, ht⟩
  · have hl : l = [] := List.eq_nil_of_length_eq_zero hn
    subst hl
    exact ⟨none, 0, 0, rfl, Lib.hid rfl, by simp, by simp, Rd.nil _ _ _⟩
  · exact ⟨some ⟨g, 0, none⟩, l.length, cap, rfl, Lib.hid rfl, hnc, hcm, Rd.of_own h⟩

theorem OwnI.rd {w : World} {base n c : Nat} {A : Option Addr} {l : List Nat} (h : OwnI k e w base (.slice A n c) l) : RdI k w w.heap.size A l := by
  obtain ⟨A', n', c', hv, _, _, _, hr⟩ := h.slice'
  injection hv with h1
  rw [h1]
  exact hr

theorem OwnI.lt {w : World} {base : Nat} {v : Value} {l : List Nat} (h : OwnI k e w base v l) : ∀ g, v.ownBlock = some g → base ≤ g ∧ g < w.heap.size := World.ownsRow.lt h

theorem OwnI.kept {w w' : World} {base : Nat} {v : Value} {l : List Nat} {row : Option Nat} (h : OwnI k e w base v l) (hg : w.grownBy w' row) (hne : v.ownBlock = none ∨ v.ownBlock ≠ row) : OwnI k e w' base v l := World.ownsRow.kept h hg hne

theorem OwnI.below {w w' : World} {base : Nat} {v : Value} {l : List Nat} (h : OwnI k e w base v l) (hb : Below w.heap.size w w') : OwnI k e w' base v l :=
  World.ownsRow.kept (row := none) h ⟨hb.os, hb.tape, hb.output, hb.size, fun k hk _ => hb.block k hk⟩ (by cases v.ownBlock <;> simp)

theorem OwnI.alloc {w : World} {base : Nat} {v : Value} {l : List Nat} (h : OwnI k e w base v l) (o : Obj) : OwnI k e (w.alloc o) base v l := h.below ((Below.refl _ _).alloc (Nat.le_refl _) _)

theorem OwnI.base {w : World} {base base' : Nat} {v : Value} {l : List Nat} (h : OwnI k e w base v l) (hb : base' ≤ base) : OwnI k e w base' v l := by
  refine ⟨h.1, ?_⟩
  rcases h.2 with h2 | ⟨g, cap, cur, hv, hg, r⟩
  · exact .inl h2
  · exact .inr ⟨g, cap, cur, hv, by omega, r⟩

theorem RdI.below {w w' : World} {D : Nat} {A : Option Addr} {l : List Nat} (h : RdI k w D A l) (hb : Below D w w') : RdI k w' D A l := Rd.below h hb

theorem RdI.at' {w : World} {D : Nat} {A : Option Addr} {l : List Nat} (h : RdI k w D A l) {j : Nat} (hj : j < l.length) :
    ∃ b off, A = some ⟨b, off, none⟩ ∧ b < D ∧ w.cell? ⟨b, off + j, none⟩ = some (.int k (l.getD j 0 : Nat)) := by
  obtain ⟨b, off, hA, hb, hc⟩ := Rd.at_ h (k := j) (by simpa using hj)
  refine ⟨b, off, hA, hb, ?_⟩
  rw [hc, List.getElem_map, List.getD_eq_getElem?_getD, List.getElem?_eq_getElem hj]
  rfl

theorem one_NV (l : List Nat) : ∀ u ∈ l.map (NV k), u.oneCell' = true := by
  intro u hu
  rw [List.mem_map] at hu
  obtain ⟨c, _, rfl⟩ := hu
  rfl

/-- a block of numbers is a slice of the call's own -/
theorem OwnI.of_blk {w : World} {base g : Nat} {l : List Nat} (h : Blk w g e (ncells k l)) (hb : base ≤ g) (hl : l.length ≤ maxLen) : OwnI k e w base (.slice (some ⟨g, 0, none⟩) l.length l.length) l :=
  ⟨by simp, .inr ⟨g, l.length, ncells k l, rfl, hb, h, Nat.le_refl _, hl, by simp [ncells], by rw [Nat.mul_one]; exact List.take_of_length_le (by simp [ncells])⟩⟩

theorem OwnI.blk {w : World} {base g n : Nat} {l : List Nat} (h : OwnI k e w base (.slice (some ⟨g, 0, none⟩) n n) l) : Blk w g e (ncells k l) := by
  rcases h.2 with ⟨h, _⟩ | ⟨g', cap', cur', hv, _, hg', hnc, hcm, hcs, ht⟩
  · cases h
  · injection hv with h1 h2 h3
    injection h1 with h1
    injection h1 with h1
    subst h1 h3
    rw [List.take_of_length_le (by rw [Array.length_toList]; omega)] at ht
    unfold Blk ncells
    rw [hg', ← ht]

theorem ncells_at (l : List Nat) (j : Nat) (h : j < l.length) : (ncells k l)[j]? = some (.int k (l.getD j 0 : Nat)) := by
  unfold ncells
  rw [List.getElem?_toArray, List.getElem?_map, List.getElem?_eq_getElem h, List.getD_eq_getElem?_getD, List.getElem?_eq_getElem h]
  rfl

theorem ncells_set (l : List Nat) (j x : Nat) : (ncells k l).setIfInBounds j (.int k (x : Int)) = ncells k (l.set j x) := by
  unfold ncells
  rw [List.setIfInBounds_toArray, List.map_set]
  rfl

/-- what a number's type is -/
structure NumT (T e : TypeId) (k : IntKind) : Prop where
  sl : Try.prog.underlying T = some (.slice e)
  info : (Try.prog.info? e).map (fun i => (i.zero, i.size, i.bytes)) = some (some (.int k 0), 1, 8)

theorem numU : NumT 77 33 .u64 := ⟨Try.underlying77, by kernel_rfl⟩
theorem numI : NumT 22 3 .i64 := ⟨Try.underlying22, by kernel_rfl⟩

theorem run_append_nilsrc8 (h : NumT T e k) (w : World) (ty : TypeId) (base : Nat) (v : Value) (n : Nat) (xs : List Value) (hown : w.ownsRow base e 1 v n xs) (c : Nat) : (Builtin.append_ #[T, T] ty #[v, .slice none 0 c]).run Try.prog w = .ok v w := by
  obtain ⟨i, hi, hz0, hz1, hz2⟩ := info_parts h.info
  exact run_append_nilsrc w base T ty e i 1 h.sl hi v n xs hown c

/-- two slices lie in two blocks -/
def Apart (u v : Value) : Prop := ∀ q, u.ownBlock = some q → v.ownBlock ≠ some q

theorem Apart.symm {u v : Value} (h : Apart u v) : Apart v u := fun q hv hu => h q hu hv

theorem Apart.later {u u' v : Value} {n : Nat} (h : Apart u v) (hl : Later n u.ownBlock u') (hv : ∀ q, v.ownBlock = some q → q < n) : Apart u' v := fun q hq hq' => by
  rcases hl with e | ⟨j, e, hj⟩
  · exact h q (by rw [← e, hq]) hq'
  · rw [hq] at e
    injection e with e
    have := hv q hq'
    omega

theorem Apart.kept {u v : Value} (h : Apart u v) : v.ownBlock = none ∨ v.ownBlock ≠ u.ownBlock := by
  cases hv : v.ownBlock with
  | none => exact .inl rfl
  | some q => exact .inr (fun e => h q e.symm hv)

theorem run_append_int (h : NumT T e k) (w : World) (ty : TypeId) (base : Nat) (v : Value) (xs : List Nat) (hown : OwnI k e w base v xs) (D : Nat) (A : Option Addr) (m c : Nat) (l : List Nat) (hm : m = l.length) (hr : RdI k w D A l)
    (hlen : xs.length + l.length ≤ 1000000) (hbase : base ≤ w.heap.size) :
    ∃ v' w', (Builtin.append_ #[T, T] ty #[v, .slice A m c]).run Try.prog w = .ok v' w' ∧ OwnI k e w' base v' (xs ++ l) ∧ w.grownBy w' v.ownBlock ∧ Later w.heap.size v.ownBlock v' := by
  obtain ⟨i, hi, hz0, hz1, hz2⟩ := info_parts h.info
  subst hm
  cases hl : l with
  | nil =>
    subst hl
    rcases A with _ | ad
    · exact ⟨v, w, run_append_nilsrc8 h w ty base v _ _ hown c, by simpa using hown, ⟨rfl, rfl, rfl, Nat.le_refl _, fun _ _ _ => rfl⟩, .inl rfl⟩
    · obtain ⟨v', w', h1, h2, h3, _, h4⟩ := run_append_own_at (P := Try.prog) w base T ty e i (.int k 0) 1 8 h.sl hi hz0 hz1 hz2 rfl (by decide) v _ _ hown ad 0 c [] rfl (fun j u hu => by simp at hu) (by simp) (by unfold maxLen; simp at hlen; omega) (by simp at hlen ⊢; omega) hbase
      exact ⟨v', w', h1, by unfold OwnI; simpa using h2, h3, h4.imp id (fun e => ⟨_, e, Nat.le_refl _⟩)⟩
  | cons y l' =>
    rw [← hl]
    have hpos : 0 < (l.map (NV k)).length := by rw [hl]; simp
    obtain ⟨b, off, rfl, hb, hc⟩ := hr hpos
    obtain ⟨v', w', h1, h2, h3, _, h4⟩ := run_append_own_at (P := Try.prog) w base T ty e i (.int k 0) 1 8 h.sl hi hz0 hz1 hz2 rfl (by decide) v _ _ hown ⟨b, off, none⟩ l.length c (l.map (NV k)) (by simp)
      (fun j u hu => by
        have hj : j < (l.map (NV k)).length := (List.getElem?_eq_some_iff.1 hu).1
        rw [add_flat, hc j hj, hu]) (one_NV l) (by unfold maxLen; omega) (by omega) hbase
    refine ⟨v', w', h1, ?_, h3, h4.imp id (fun e => ⟨_, e, Nat.le_refl _⟩)⟩
    unfold OwnI
    rw [List.length_append, List.map_append]
    exact h2

theorem wpList_append_int (h : NumT T e k) {ops : Array Oper} {rest : List Oper} {o : Oper} {a : Act} {Q : Exit → Act → World → Prop} {w : World} (hgd : o.guard = none) (s x : Operand)
    (ho : o.op = .call { callee := .builtin .append, args := #[s, x], argTypes := #[T, T] })
    (base : Nat) (v : Value) (xs : List Nat) (hs : a.eval s = v) (hown : OwnI k e w base v xs) (D : Nat) (A : Option Addr) (m c : Nat) (l : List Nat) (hx : a.eval x = .slice A m c) (hm : m = l.length) (hr : RdI k w D A l)
    (hlen : xs.length + l.length ≤ 1000000) (hbase : base ≤ w.heap.size)
    (hK : ∀ v' w', OwnI k e w' base v' (xs ++ l) → w.grownBy w' v.ownBlock → Later w.heap.size v.ownBlock v' → wpList Try.prog ops Q rest (a.put o.dst v') w') : wpList Try.prog ops Q (o :: rest) a w := by
  obtain ⟨v', w', hr, h2, h3, h4⟩ := run_append_int h w o.type base v xs hown D A m c l hm hr hlen hbase
  refine wpList_plain hgd fun K hK' => ?_
  unfold Oper.wp execOp
  simp only [ho, resolve, invoke, builtin, Sem.run_bind, Sem.run_pure, Result.andThen_ok, List.map_toArray, List.map_cons, List.map_nil, hs, hx, hr]
  exact hK' _ _ (hK v' w' h2 h3 h4)

theorem wpList_make_int (h : NumT T e k) {ops : Array Oper} {rest : List Oper} {o : Oper} {a : Act} {Q : Exit → Act → World → Prop} {w : World} (hgd : o.guard = none) (l c : Operand)
    (ho : o.op = Op.makeSlice T l c) (base : Nat) (L C : Int) (n : Nat) (hl : a.eval l = .int .i64 L) (hc : a.eval c = .int .i64 C) (hL : L = (n : Int)) (hC : C = (n : Int)) (hn : n ≤ 1000000) (hbase : base ≤ w.heap.size)
    (hK : ∀ w', OwnI k e w' base (.slice (some ⟨w.heap.size, 0, none⟩) n n) (List.replicate n 0) → w.grownBy w' none → wpList Try.prog ops Q rest (a.put o.dst (.slice (some ⟨w.heap.size, 0, none⟩) n n)) w') : wpList Try.prog ops Q (o :: rest) a w := by
  obtain ⟨i, hi, hz0, hz1, hz2⟩ := info_parts h.info
  refine wpList_make_full w hgd l c T ho base e i (.int k 0) 1 h.sl hi hz0 hz1 .i64 .i64 L C n hl hc hL hC (by rw [hz2]; omega) (by unfold maxLen; omega) hbase fun w' h1 h2 => hK w' ?_ h2
  have e' : (madeCells (Value.int k 0).cells (n * 1)).toList = (List.replicate n 0).map (NV k) := by
    rw [Nat.mul_one]
    show (madeCells #[.int k 0] n).toList = _
    rw [toList_madeCells_one, List.map_replicate]; rfl
  unfold OwnI
  rw [List.length_replicate, ← e']
  exact h1

end Go.Proofs.Ytehhgfkbcjbciaa
