/- Slices of bytes: one that is the call's own, one that is read, append. -/
import Derived.Test.YtehhgfkbcjbciaaBase
import Derived.Lib.ConvBytes
namespace Go.Proofs.Ytehhgfkbcjbciaa
open Go.RowKit

theorem info_u8 : (Try.prog.info? 5).map (fun i => (i.zero, i.size, i.bytes)) = some (some (.int .u8 0), 1, 1) := by kernel_rfl

/-- a slice of bytes that reads as l -/
def RdB (w : World) (D : Nat) (A : Option Addr) (l : List UInt8) : Prop := Rd w D A (l.map B)

/-- a slice of bytes of the call's own -/
def OwnB (w : World) (base : Nat) (v : Value) (l : List UInt8) : Prop := w.ownsRow base 5 1 v l.length (l.map B)

theorem add_flat (b off j : Nat) : (⟨b, off, none⟩ : Addr).add j = ⟨b, off + j, none⟩ := by
  unfold Addr.add; split <;> simp_all

theorem OwnB.nil (w : World) (base : Nat) : OwnB w base (.slice none 0 0) [] := World.ownsRow_nil _ _ _ _

theorem OwnB.new (w : World) (base : Nat) (l : List UInt8) (hb : base ≤ w.heap.size) (hl : l.length ≤ maxLen) :
    OwnB (w.alloc (.cells (l.map B).toArray 5)) base (.slice (some ⟨w.heap.size, 0, none⟩) l.length l.length) l := by
  refine ⟨by simp, .inr ⟨w.heap.size, l.length, (l.map B).toArray, rfl, hb, heap_alloc_new w _, Nat.le_refl _, hl, by simp, ?_⟩⟩
  simp only [Nat.mul_one]
  exact List.take_of_length_le (by simp)

theorem OwnB.slice {w : World} {base : Nat} {v : Value} {l : List UInt8} (h : OwnB w base v l) :
    ∃ A c, v = .slice A l.length c ∧ l.length ≤ c ∧ c ≤ maxLen ∧ RdB w w.heap.size A l ∧ (∀ g, v.ownBlock = some g → base ≤ g ∧ g < w.heap.size) := by
  have hlt := World.ownsRow.lt h
  rcases h.2 with ⟨rfl, hn⟩ | ⟨g, cap, cur, rfl, hb, hg, hnc, hcm, hcs, ht⟩
  · have hl : l = [] := List.eq_nil_of_length_eq_zero hn
    subst hl
    exact ⟨none, 0, rfl, by simp, by simp, Rd.nil _ _ _, hlt⟩
  · exact ⟨some ⟨g, 0, none⟩, cap, rfl, hnc, hcm, Rd.of_own h, hlt⟩

theorem OwnB.kept {w w' : World} {base : Nat} {v : Value} {l : List UInt8} {row : Option Nat} (h : OwnB w base v l) (hg : w.grownBy w' row) (hne : v.ownBlock = none ∨ v.ownBlock ≠ row) : OwnB w' base v l :=
  World.ownsRow.kept h hg hne

theorem OwnB.below {w w' : World} {base : Nat} {v : Value} {l : List UInt8} (h : OwnB w base v l) (hb : Below w.heap.size w w') : OwnB w' base v l :=
  World.ownsRow.kept (row := none) h ⟨hb.os, hb.tape, hb.output, hb.size, fun k hk _ => hb.block k hk⟩ (by cases v.ownBlock <;> simp)

theorem OwnB.base {w : World} {base base' : Nat} {v : Value} {l : List UInt8} (h : OwnB w base v l) (hb : base' ≤ base) : OwnB w base' v l := by
  refine ⟨h.1, ?_⟩
  rcases h.2 with h2 | ⟨g, cap, cur, hv, hg, r⟩
  · exact .inl h2
  · exact .inr ⟨g, cap, cur, hv, by omega, r⟩

theorem RdB.grown {w w' : World} {D : Nat} {A : Option Addr} {l : List UInt8} {row : Option Nat} (h : RdB w D A l) (g : w.grownBy w' row) (hD : D ≤ w.heap.size) (hr : ∀ k, row = some k → D ≤ k) : RdB w' D A l :=
  h.keep fun p hp => World.cell?_of_block (g.block p.block (by omega) (fun e => by have := hr _ e.symm; omega))

theorem RdB.below {w w' : World} {D : Nat} {A : Option Addr} {l : List UInt8} (h : RdB w D A l) (hb : Below D w w') : RdB w' D A l := Rd.below h hb

theorem below_drewN {D : Nat} {a w : World} (h : Below D a w) (n : Nat) : Below D a (w.drewN n) := ⟨h.os, h.tape, h.output, h.size, h.block⟩

theorem RdB.cut {w : World} {D : Nat} {A : Option Addr} {l : List UInt8} (h : RdB w D A l) (p k : Nat) : RdB w D (Option.map (fun x => x.add p) A) ((l.drop p).take k) := fun hl => by
  rw [List.length_map, List.length_take, List.length_drop] at hl
  obtain ⟨b, off, rfl, hb, hc⟩ := h (by rw [List.length_map]; omega)
  refine ⟨b, off + p, by rw [Option.map_some, add_flat], hb, fun j hj => ?_⟩
  rw [List.length_map, List.length_take, List.length_drop] at hj
  rw [Nat.add_assoc, hc (p + j) (by rw [List.length_map]; omega), List.getElem?_map, List.getElem?_map, List.getElem?_take, if_pos (by omega), List.getElem?_drop]

theorem RdB.part {w : World} {D b off : Nat} {l : List UInt8} (h : RdB w D (some ⟨b, off, none⟩) l) (p k : Nat) : RdB w D (some ⟨b, off + p, none⟩) ((l.drop p).take k) := by
  have := h.cut p k
  rwa [Option.map_some, add_flat] at this

theorem part_len {α : Type} (l : List α) (p k : Nat) (h : p + k ≤ l.length) : ((l.drop p).take k).length = k := by simp; omega

theorem RdB.take {w : World} {D : Nat} {A : Option Addr} {l : List UInt8} (h : RdB w D A l) (m : Nat) : RdB w D A (l.take m) := fun hl => by
  have hl' : 0 < (l.map B).length := by simp at hl ⊢; omega
  obtain ⟨b, off, e, hb, hc⟩ := h hl'
  refine ⟨b, off, e, hb, fun j hj => ?_⟩
  have hj' : j < m ∧ j < l.length := by simp at hj; omega
  rw [hc j (by simpa using hj'.2), List.map_take, List.getElem?_take, if_pos hj'.1]

theorem OwnB.store {w : World} {base g n cap : Nat} {l : List UInt8} (h : OwnB w base (.slice (some ⟨g, 0, none⟩) n cap) l) (j : Nat) (c : UInt8) :
    OwnB (w.setCell ⟨g, j, none⟩ (B c)) base (.slice (some ⟨g, 0, none⟩) n cap) (l.set j c) := by
  have hn : n = l.length := by
    rcases h.2 with ⟨h, _⟩ | ⟨g', cap', cur', h, _⟩
    · cases h
    · injection h
  subst hn
  have h1 := (World.ownsRow.stored h j (B c)).1
  unfold OwnB
  rw [List.length_set, List.map_set]
  exact h1

theorem OwnB.frozen {w : World} {base g n cap : Nat} {l : List UInt8} (h : OwnB w base (.slice (some ⟨g, 0, none⟩) n cap) l) (j : Nat) : w.frozen? ⟨g, j, none⟩ = false := by
  rcases h.2 with ⟨h, _⟩ | ⟨g', cap', cur', h, _, hg', _⟩
  · cases h
  · injection h with h; injection h with h; injection h with h
    subst h
    simp [World.frozen?, hg']

theorem OwnB.cell {w : World} {base g n cap : Nat} {l : List UInt8} (h : OwnB w base (.slice (some ⟨g, 0, none⟩) n cap) l) (j : Nat) (hj : j < l.length) : w.cell? ⟨g, j, none⟩ = some (.int .u8 (l[j].toNat : Int)) := by
  have h2 := World.ownsRow.cells h (g := g) rfl j (B l[j]) (by rw [List.getElem?_map, List.getElem?_eq_getElem hj]; rfl)
  rwa [add_flat, Nat.zero_add] at h2

theorem cell_grown {w w' : World} {row : Option Nat} {b o : Nat} (g : w.grownBy w' row) (hb : b < w.heap.size) (hr : ∀ k, row = some k → b < k) : w'.cell? ⟨b, o, none⟩ = w.cell? ⟨b, o, none⟩ :=
  World.cell?_of_block (a := ⟨b, o, none⟩) (g.block b hb (fun e => by have := hr b e.symm; omega))

/-- block g is just these cells of the type t -/
def Blk (w : World) (g : Nat) (t : TypeId) (cs : Array Value) : Prop := w.heap[g]? = some (.cells cs t (0, 0))

theorem Blk.lt {w : World} {g : Nat} {t : TypeId} {cs : Array Value} (h : Blk w g t cs) : g < w.heap.size := (Array.getElem?_eq_some_iff.1 h).1
theorem Blk.new (w : World) (t : TypeId) (cs : Array Value) : Blk (w.alloc (.cells cs t)) w.heap.size t cs := heap_alloc_new w _
theorem Blk.alloc {w : World} {g : Nat} {t : TypeId} {cs : Array Value} (h : Blk w g t cs) (o : Obj) : Blk (w.alloc o) g t cs := (Below.heap_alloc w o g h.lt).trans h
theorem Blk.below {w w' : World} {g D : Nat} {t : TypeId} {cs : Array Value} (h : Blk w g t cs) (hb : Below D w w') (hD : g < D) : Blk w' g t cs := (hb.block g hD).trans h
theorem Blk.grown {w w' : World} {g : Nat} {t : TypeId} {cs : Array Value} {row : Option Nat} (h : Blk w g t cs) (hb : w.grownBy w' row) (hr : row ≠ some g) : Blk w' g t cs := (hb.block g h.lt (fun e => hr e.symm)).trans h
theorem Blk.cell {w : World} {g : Nat} {t : TypeId} {cs : Array Value} (h : Blk w g t cs) (j : Nat) : w.cell? ⟨g, j, none⟩ = cs[j]? := cell_of_row w g j cs t (0, 0) h
theorem Blk.drewN {w : World} {g : Nat} {t : TypeId} {cs : Array Value} (h : Blk w g t cs) (n : Nat) : Blk (w.drewN n) g t cs := h

theorem Blk.frozen {w : World} {g : Nat} {t : TypeId} {cs : Array Value} (h : Blk w g t cs) (j : Nat) : w.frozen? ⟨g, j, none⟩ = false := by
  unfold Blk at h
  simp [World.frozen?, h]

theorem Blk.store {w : World} {g : Nat} {t : TypeId} {cs : Array Value} (h : Blk w g t cs) (j : Nat) (v : Value) : Blk (w.setCell ⟨g, j, none⟩ v) g t (cs.setIfInBounds j v) := by
  have hlt := h.lt
  have h' : w.heap[g] = .cells cs t (0, 0) := by have h2 := h; unfold Blk at h2; simpa [Array.getElem?_eq_getElem hlt] using h2
  show (w.heap.modify g _)[g]? = _
  rw [Array.getElem?_eq_getElem (by simpa using hlt), Array.getElem_modify_self, h']
  rfl

theorem Blk.other {w : World} {g k j : Nat} {t : TypeId} {cs : Array Value} (h : Blk w g t cs) (hk : g ≠ k) (v : Value) : Blk (w.setCell ⟨k, j, none⟩ v) g t cs :=
  (Below.heap_setCell w ⟨k, j, none⟩ v g hk).trans h

/-- a row of bytes is none of another type -/
theorem OwnB.ne {w : World} {base : Nat} {v : Value} {l : List UInt8} (h : OwnB w base v l) {g : Nat} {t : TypeId} {cs : Array Value} (hg : Blk w g t cs) (ht : t ≠ 5) : v.ownBlock ≠ some g := by
  rcases h.2 with ⟨rfl, _⟩ | ⟨g', cap, cur, rfl, _, hh, _⟩
  · simp [Value.ownBlock]
  · intro he
    have e : g' = g := by simpa [Value.ownBlock] using he
    subst e
    unfold Blk at hg
    rw [hh] at hg
    injection hg with hg
    injection hg with _ h2
    exact ht h2.symm

theorem run_append_nilsrc {P : Program} (w : World) (base : Nat) (t ty e : TypeId) (i : TypeInfo) (size : Nat) (ht : P.underlying t = some (.slice e)) (hi : P.info? e = some i)
    (v : Value) (n : Nat) (xs : List Value) (hown : w.ownsRow base e size v n xs) (c : Nat) : (Builtin.append_ #[t, t] ty #[v, .slice none 0 c]).run P w = .ok v w := by
  rcases hown.2 with ⟨rfl, rfl⟩ | ⟨g, cap, cur, rfl, _, _, hnc, _⟩
  · simp [Builtin.append_, run_underlying ht, sizeOf, typeInfo, hi, Builtin.lenOf, Builtin.firstCells]
  · simp [Builtin.append_, run_underlying ht, sizeOf, typeInfo, hi, Builtin.lenOf, Builtin.firstCells, hnc, storeCells]

theorem one_B (l : List UInt8) : ∀ u ∈ l.map B, u.oneCell' = true := by
  intro u hu
  rw [List.mem_map] at hu
  obtain ⟨c, _, rfl⟩ := hu
  rfl

theorem run_append_u8 (w : World) (ty : TypeId) (base : Nat) (v : Value) (xs : List UInt8) (hown : OwnB w base v xs) (D : Nat) (A : Option Addr) (m c : Nat) (l : List UInt8) (hm : m = l.length) (hr : RdB w D A l)
    (hlen : xs.length + l.length ≤ 140737488355328) (hbase : base ≤ w.heap.size) :
    ∃ v' w', (Builtin.append_ #[24, 24] ty #[v, .slice A m c]).run Try.prog w = .ok v' w' ∧ OwnB w' base v' (xs ++ l) ∧ w.grownBy w' v.ownBlock := by
  obtain ⟨i, hi, hz0, hz1, hz2⟩ := info_parts info_u8
  subst hm
  cases hl : l with
  | nil =>
    subst hl
    rcases A with _ | ad
    · exact ⟨v, w, run_append_nilsrc w base _ _ _ i 1 Try.underlying24 hi v _ _ hown c, by simpa using hown, ⟨rfl, rfl, rfl, Nat.le_refl _, fun _ _ _ => rfl⟩⟩
    · obtain ⟨v', w', h1, h2, h3, _⟩ := run_append_own (P := Try.prog) w base 24 ty 5 i (.int .u8 0) 1 1 Try.underlying24 hi hz0 hz1 hz2 rfl (by decide) v _ _ hown ad 0 c [] rfl (fun j u hu => by simp at hu) (by simp) (by unfold maxLen; simp at hlen; omega) (by simp at hlen ⊢; omega) hbase
      exact ⟨v', w', h1, by unfold OwnB; simpa using h2, h3⟩
  | cons y l' =>
    rw [← hl]
    have hpos : 0 < (l.map B).length := by rw [hl]; simp
    obtain ⟨b, off, rfl, hb, hc⟩ := hr hpos
    obtain ⟨v', w', h1, h2, h3, _⟩ := run_append_own (P := Try.prog) w base 24 ty 5 i (.int .u8 0) 1 1 Try.underlying24 hi hz0 hz1 hz2 rfl (by decide) v _ _ hown ⟨b, off, none⟩ l.length c (l.map B) (by simp)
      (fun j u hu => by
        have hj : j < (l.map B).length := (List.getElem?_eq_some_iff.1 hu).1
        rw [add_flat, hc j hj, hu]) (one_B l) (by unfold maxLen; omega) (by omega) hbase
    refine ⟨v', w', h1, ?_, h3⟩
    unfold OwnB
    rw [List.length_append, List.map_append]
    exact h2

theorem wpList_append_u8 {ops : Array Oper} {rest : List Oper} {o : Oper} {a : Act} {Q : Exit → Act → World → Prop} {w : World} (hgd : o.guard = none) (s x : Operand)
    (ho : o.op = .call { callee := .builtin .append, args := #[s, x], argTypes := #[24, 24] })
    (base : Nat) (v : Value) (xs : List UInt8) (hs : a.eval s = v) (hown : OwnB w base v xs) (D : Nat) (A : Option Addr) (m c : Nat) (l : List UInt8) (hx : a.eval x = .slice A m c) (hm : m = l.length) (hr : RdB w D A l)
    (hlen : xs.length + l.length ≤ 140737488355328) (hbase : base ≤ w.heap.size)
    (h : ∀ v' w', OwnB w' base v' (xs ++ l) → w.grownBy w' v.ownBlock → wpList Try.prog ops Q rest (a.put o.dst v') w') : wpList Try.prog ops Q (o :: rest) a w := by
  obtain ⟨v', w', hr, h2, h3⟩ := run_append_u8 w o.type base v xs hown D A m c l hm hr hlen hbase
  refine wpList_plain hgd fun K hK => ?_
  unfold Oper.wp execOp
  simp only [ho, resolve, invoke, builtin, Sem.run_bind, Sem.run_pure, Result.andThen_ok, List.map_toArray, List.map_cons, List.map_nil, hs, hx, hr]
  exact hK _ _ (h v' w' h2 h3)

theorem wp_append_u8 {o : Oper} {a : Act} {K : Act → World → Prop} {Q : Exit → Act → World → Prop} {w : World} (s x : Operand)
    (ho : o.op = .call { callee := .builtin .append, args := #[s, x], argTypes := #[24, 24] })
    (base : Nat) (v : Value) (xs : List UInt8) (hs : a.eval s = v) (hown : OwnB w base v xs) (D : Nat) (A : Option Addr) (m c : Nat) (l : List UInt8) (hx : a.eval x = .slice A m c) (hm : m = l.length) (hr : RdB w D A l)
    (hlen : xs.length + l.length ≤ 140737488355328) (hbase : base ≤ w.heap.size)
    (h : ∀ v' w', OwnB w' base v' (xs ++ l) → w.grownBy w' v.ownBlock → K (a.put o.dst v') w') :
    Oper.wp Try.prog o a w K Q := by
  obtain ⟨v', w', hr, h2, h3⟩ := run_append_u8 w o.type base v xs hown D A m c l hm hr hlen hbase
  unfold Oper.wp execOp
  simp only [ho, resolve, invoke, builtin, Sem.run_bind, Sem.run_pure, Result.andThen_ok, List.map_toArray, List.map_cons, List.map_nil, hs, hx, hr]
  exact h v' w' h2 h3

/-- '[]byte(s)': a slice of the call's own -/
theorem run_bytes_of (w : World) (s : ByteArray) : (convert 9 24 (.string s)).run Try.prog w = .ok (.slice (some ⟨w.heap.size, 0, none⟩) s.size (grownCap w s.size 0 5)) (Lib.bytesWorld w 5 s) :=
  Lib.run_convert_string_bytes w 9 24 5 s Try.underlying9 Try.underlying24 Try.underlying5

theorem toList_loop (s : ByteArray) : ∀ (n i : Nat) (r : List UInt8), s.size - i = n → ByteArray.toList.loop s i r = r.reverse ++ s.data.toList.drop i := by
  intro n
  induction n with
  | zero =>
    intro i r h
    rw [ByteArray.toList.loop, if_neg (by omega), List.drop_of_length_le (by have : s.data.toList.length = s.size := by rw [Array.length_toList]; rfl
                                                                             omega), List.append_nil]
  | succ n ih =>
    intro i r h
    have hi : i < s.data.size := by have : s.data.size = s.size := rfl; omega
    rw [ByteArray.toList.loop, if_pos (by omega), ih (i + 1) _ (by omega), List.reverse_cons, List.append_assoc]
    congr 1
    have e := List.drop_eq_getElem_cons (l := s.data.toList) (i := i) (by rw [Array.length_toList]; exact hi)
    rw [e]
    show [s.data[i]!] ++ _ = _
    rw [getElem!_pos s.data i hi]
    rfl

/-- a string's bytes as the model compares them -/
theorem toList_eq (s : ByteArray) : s.toList = s.data.toList := by
  have := toList_loop s s.size 0 [] (by omega)
  simpa [ByteArray.toList] using this

theorem toList_mk (l : List UInt8) : (⟨l.toArray⟩ : ByteArray).toList = l := toList_eq _

theorem foldl_push (l : List UInt8) (s : ByteArray) : (l.map fun c => (c.toNat : Int)).foldl (fun r n => r.push (UInt8.ofNat n.toNat)) s = ⟨s.data ++ l.toArray⟩ := by
  induction l generalizing s with
  | nil => simp
  | cons c l ih =>
    rw [List.map_cons, List.foldl_cons, ih]
    simp [ByteArray.push]

/-- 'string(b)' -/
theorem run_str_of (w : World) (D : Nat) (A : Option Addr) (c n : Nat) (l : List UInt8) (hn : l.length = n) (hr : RdB w D A l) :
    (convert 24 9 (.slice A n c)).run Try.prog w = .ok (.string ⟨l.toArray⟩) w := by
  subst hn
  rw [run_convert_bytes_string w _ _ 5 A _ c Try.underlying24 Try.underlying5 Try.underlying9]
  cases A with
  | none =>
    have h0 : l = [] := by
      cases l with
      | nil => rfl
      | cons x xs => obtain ⟨b, off, h, _⟩ := hr (by simp); cases h
    subst h0
    simp [Conv.bytesToString, Sem.run_pure]
    rfl
  | some a =>
    have hl : (loadCells a l.length).run Try.prog w = .ok ((l.map fun c => (c.toNat : Int)).map (Value.int .u8)).toArray w := by
      have h := run_loadCells_list (P := Try.prog) (w := w) a (l.map B) (fun j u hu => by
        have hj : j < (l.map B).length := (List.getElem?_eq_some_iff.1 hu).1
        obtain ⟨b, off, e, _, hc⟩ := hr (by omega)
        injection e with e
        subst e
        rw [add_flat, hc j hj, hu])
      rw [List.length_map] at h
      rw [h, List.map_map]
      rfl
    rw [run_bytesToString w a l.length c (l.map fun c => (c.toNat : Int)) hl, foldl_push, show ByteArray.empty.data = #[] from rfl, Array.empty_append]

theorem below_bytes {D : Nat} {a w : World} {e : TypeId} {s : ByteArray} (h : Below D a w) (hD : D ≤ w.heap.size) : Below D a (Lib.bytesWorld w e s) :=
  ⟨h.os, h.tape, h.output, by rw [Lib.bytesWorld_size]; have := h.size; omega, fun k hk => (Lib.bytesWorld_at_old w e s k (by omega)).trans (h.block k hk)⟩

theorem below_bytes' {a w : World} {e : TypeId} {s : ByteArray} (h : Below a.heap.size a w) : Below a.heap.size a (Lib.bytesWorld w e s) := below_bytes h h.size

theorem RdB.bytes (w : World) (s : ByteArray) : RdB (Lib.bytesWorld w 5 s) (w.heap.size + 1) (some ⟨w.heap.size, 0, none⟩) s.data.toList := fun _ =>
  ⟨w.heap.size, 0, rfl, by omega, fun j hj => by
    have hj' : j < s.size := by simpa using hj
    rw [Nat.zero_add, Lib.bytesWorld_cell w _ s j hj', List.getElem?_map, List.getElem?_eq_getElem (by simpa using hj), List.getD_eq_getElem?_getD, List.getElem?_eq_getElem (by simpa using hj)]
    rfl⟩

/-- append that must grow: a new row of the call's own -/
theorem run_append_grow_u8 (w : World) (ty : TypeId) (b off cap D D' : Nat) (xs : List UInt8) (hrx : RdB w D (some ⟨b, off, none⟩) xs) (A : Option Addr) (c : Nat) (l : List UInt8) (hr : RdB w D' A l)
    (hpos : 0 < l.length) (hg : cap < xs.length + l.length) (hlen : xs.length + l.length ≤ 140737488355328) :
    ∃ v' w', (Builtin.append_ #[24, 24] ty #[.slice (some ⟨b, off, none⟩) xs.length cap, .slice A l.length c]).run Try.prog w = .ok v' w' ∧ OwnB w' w.heap.size v' (xs ++ l) ∧ Below w.heap.size w w' := by
  obtain ⟨i, hi, hz0, hz1, hz2⟩ := info_parts info_u8
  obtain ⟨b', off', rfl, hb', hc'⟩ := hr (by rw [List.length_map]; exact hpos)
  have hx : ∀ j v, (xs.map B)[j]? = some v → w.cell? ((⟨b, off, none⟩ : Addr).add j) = some v := by
    intro j v hv
    have hj : j < (xs.map B).length := (List.getElem?_eq_some_iff.1 hv).1
    obtain ⟨b2, off2, e, _, hc2⟩ := hrx (by omega)
    injection e with e
    injection e with e1 e2
    subst e1 e2
    rw [add_flat, hc2 j hj, hv]
  have hn : ∀ j v, (l.map B)[j]? = some v → w.cell? ((⟨b', off', none⟩ : Addr).add j) = some v := by
    intro j v hv
    have hj : j < (l.map B).length := (List.getElem?_eq_some_iff.1 hv).1
    rw [add_flat, hc' j hj, hv]
  have hrun := run_append_grow (P := Try.prog) (w := w) 24 ty 5 i (.int .u8 0) Try.underlying24 hi hz0 ⟨b, off, none⟩ xs.length cap (xs.map B) (by rw [hz1]; simp) hx ⟨b', off', none⟩ l.length c (l.map B) (by rw [hz1]; simp) hn hg (by omega) (growslice_fits hg (by rw [hz2]; omega))
  refine ⟨_, _, hrun, ?_, (Below.refl _ w).drew.alloc (Nat.le_refl _) _⟩
  unfold OwnB
  rw [List.length_append]
  refine ⟨by simp, .inr ⟨w.heap.size, grownCap w (xs.length + l.length) cap 5, _, rfl, Nat.le_refl _, heap_alloc_new w.drew _, grownCap_ge w _ _ _, grownCap_le_maxLen w _ _ _ (by unfold maxLen; omega), ?_, ?_⟩⟩
  · have h := grownCap_ge w (xs.length + l.length) cap 5
    simp only [Array.size_append, List.size_toArray, size_zeroCells, List.length_map]
    show xs.length + l.length + (_ - _) * 1 = _ * 1
    omega
  · rw [Nat.mul_one, Array.toList_append, Array.toList_append, List.map_append]
    exact List.take_left' (by simp)

theorem wpList_append_grow_u8 {ops : Array Oper} {rest : List Oper} {o : Oper} {a : Act} {Q : Exit → Act → World → Prop} {w : World} (hgd : o.guard = none) (s x : Operand)
    (ho : o.op = .call { callee := .builtin .append, args := #[s, x], argTypes := #[24, 24] })
    (b off cap D D' : Nat) (xs : List UInt8) (n : Nat) (hs : a.eval s = .slice (some ⟨b, off, none⟩) n cap) (hnx : n = xs.length) (hrx : RdB w D (some ⟨b, off, none⟩) xs) (A : Option Addr) (m c : Nat) (l : List UInt8) (hx : a.eval x = .slice A m c) (hm : m = l.length) (hr : RdB w D' A l)
    (hpos : 0 < l.length) (hg : cap < xs.length + l.length) (hlen : xs.length + l.length ≤ 140737488355328)
    (h : ∀ v' w', OwnB w' w.heap.size v' (xs ++ l) → Below w.heap.size w w' → wpList Try.prog ops Q rest (a.put o.dst v') w') : wpList Try.prog ops Q (o :: rest) a w := by
  subst hnx hm
  obtain ⟨v', w', hr, h2, h3⟩ := run_append_grow_u8 w o.type b off cap D D' xs hrx A c l hr hpos hg hlen
  refine wpList_plain hgd fun K hK => ?_
  unfold Oper.wp execOp
  simp only [ho, resolve, invoke, builtin, Sem.run_bind, Sem.run_pure, Result.andThen_ok, List.map_toArray, List.map_cons, List.map_nil, hs, hx, hr]
  exact hK _ _ (h v' w' h2 h3)

/-- the builtin min of two lengths -/
theorem wpList_min {ops : Array Oper} {rest : List Oper} {o : Oper} {a : Act} {Q : Exit → Act → World → Prop} {w : World} (hgd : o.guard = none) (s x : Operand)
    (ho : o.op = .call { callee := .builtin .min, args := #[s, x], argTypes := #[3, 3] }) (m n k : Nat) (hs : a.eval s = .int .i64 (m : Int)) (hx : a.eval x = .int .i64 (n : Int)) (hk : min m n = k)
    (h : wpList Try.prog ops Q rest (a.put o.dst (.int .i64 (k : Int))) w) : wpList Try.prog ops Q (o :: rest) a w := by
  refine wpList_plain hgd fun K hK => ?_
  have e : (if (n : Int) < m then (n : Int) else m) = (k : Int) := by split <;> omega
  unfold Oper.wp execOp
  simp only [ho, resolve, invoke, builtin, Sem.run_bind, Sem.run_pure, Result.andThen_ok, List.map_toArray, List.map_cons, List.map_nil, hs, hx, run_min_int2, e]
  exact hK _ _ h

theorem wpList_make_u8 {ops : Array Oper} {rest : List Oper} {o : Oper} {a : Act} {Q : Exit → Act → World → Prop} {w : World} (hgd : o.guard = none) (l c : Operand)
    (ho : o.op = Op.makeSlice 24 l c) (base : Nat) (L C : Int) (n : Nat) (hl : a.eval l = .int .i64 L) (hc : a.eval c = .int .i64 C) (hL : L = (n : Int)) (hC : C = (n : Int)) (hn : n ≤ 281474976710656) (hbase : base ≤ w.heap.size)
    (h : ∀ w', OwnB w' base (.slice (some ⟨w.heap.size, 0, none⟩) n n) (List.replicate n 0) → w.grownBy w' none → wpList Try.prog ops Q rest (a.put o.dst (.slice (some ⟨w.heap.size, 0, none⟩) n n)) w') : wpList Try.prog ops Q (o :: rest) a w := by
  obtain ⟨i, hi, hz0, hz1, hz2⟩ := info_parts info_u8
  refine wpList_make_full w hgd l c 24 ho base 5 i (.int .u8 0) 1 Try.underlying24 hi hz0 hz1 .i64 .i64 L C n hl hc hL hC (by rw [hz2]; omega) (by unfold maxLen; omega) hbase fun w' h1 h2 => h w' ?_ h2
  have e : (madeCells (Value.int .u8 0).cells (n * 1)).toList = (List.replicate n (0 : UInt8)).map B := by
    rw [Nat.mul_one]
    show (madeCells #[.int .u8 0] n).toList = _
    rw [toList_madeCells_one, List.map_replicate]; rfl
  unfold OwnB
  rw [List.length_replicate, ← e]
  exact h1

end Go.Proofs.Ytehhgfkbcjbciaa
