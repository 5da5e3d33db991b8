/- Slices of records: read, and of the call's own; slices of slices of bytes. -/
import Derived.Test.YtehhgfkbcjbciaaOpenRec
import Derived.Test.YtehhgfkbcjbciaaScanBytes
import Derived.Deep.Slices
namespace Go.Proofs.Ytehhgfkbcjbciaa
open Go.ChangeShapes Go.WideShapes Go.ChangeAt Go.RowKit Go.Deep

/-- records as cells -/
def rsCells (l : List Rec) : List Value := l.flatMap fun R => R.cells.toList

theorem rcells_len (R : Rec) : R.cells.toList.length = 6 := rfl

theorem rsCells_len (l : List Rec) : (rsCells l).length = l.length * 6 := by
  induction l with
  | nil => rfl
  | cons f l ih =>
    have : rsCells (f :: l) = f.cells.toList ++ rsCells l := rfl
    rw [this, List.length_append, ih, rcells_len, List.length_cons]; omega

theorem rsCells_append (l m : List Rec) : rsCells (l ++ m) = rsCells l ++ rsCells m := by unfold rsCells; rw [List.flatMap_append]

theorem rsCells_at (l : List Rec) (k j : Nat) (hk : k < l.length) (hj : j < 6) : (rsCells l)[k * 6 + j]? = l[k].cells.toList[j]? := by
  induction l generalizing k with
  | nil => simp at hk
  | cons f l ih =>
    have e : rsCells (f :: l) = f.cells.toList ++ rsCells l := rfl
    cases k with
    | zero => rw [e, Nat.zero_mul, Nat.zero_add, List.getElem?_append_left (by rw [rcells_len]; omega)]; rfl
    | succ k =>
      rw [e, List.getElem?_append_right (by rw [rcells_len]; omega), rcells_len, show (k + 1) * 6 + j - 6 = k * 6 + j from by omega, ih k (by simpa using hk)]
      rfl

theorem rone (l : List Rec) : ∀ u ∈ rsCells l, u.oneCell' = true := by
  intro u hu
  unfold rsCells at hu
  rw [List.mem_flatMap] at hu
  obtain ⟨f, _, hf⟩ := hu
  unfold Rec.cells at hf
  simp only [List.mem_cons, List.not_mem_nil, or_false] at hf
  rcases hf with rfl | rfl | rfl | rfl | rfl | rfl <;> rfl

def OwnR (w : World) (base : Nat) (v : Value) (l : List Rec) : Prop := w.ownsRow base 35 6 v l.length (rsCells l)

def RdR (w : World) (D : Nat) (A : Option Addr) (l : List Rec) : Prop := Rd w D A (rsCells l)

theorem OwnR.nil (w : World) (base : Nat) : OwnR w base (.slice none 0 0) [] := World.ownsRow_nil _ _ _ _

theorem OwnR.slice {w : World} {base : Nat} {v : Value} {l : List Rec} (h : OwnR w base v l) :
    ∃ A c, v = .slice A l.length c ∧ l.length ≤ c ∧ c ≤ maxLen ∧ RdR w w.heap.size A l ∧ (∀ g, v.ownBlock = some g → base ≤ g ∧ g < w.heap.size) := by
  have hlt := World.ownsRow.lt h
  rcases h.2 with ⟨rfl, hn⟩ | ⟨g, cap, cur, rfl, hb, hg, hnc, hcm, hcs, ht⟩
  · have hl : l = [] := List.eq_nil_of_length_eq_zero hn
    subst hl
    exact ⟨none, 0, rfl, by simp, by simp, Rd.nil _ _ _, hlt⟩
  · refine ⟨some ⟨g, 0, none⟩, cap, rfl, hnc, hcm, fun hl => ⟨g, 0, rfl, (Array.getElem?_eq_some_iff.1 hg).1, fun j hj => ?_⟩, hlt⟩
    rw [rsCells_len] at hj
    rw [cell_of_row w g (0 + j) cur 35 (0, 0) hg, ← ht, List.getElem?_take, if_pos (by omega)]
    simp

theorem OwnR.below {w w' : World} {base : Nat} {v : Value} {l : List Rec} (h : OwnR w base v l) (hb : Below w.heap.size w w') : OwnR w' base v l :=
  World.ownsRow.kept (row := none) h ⟨hb.os, hb.tape, hb.output, hb.size, fun k hk _ => hb.block k hk⟩ (by cases v.ownBlock <;> simp)

theorem OwnR.lt {w : World} {base : Nat} {v : Value} {l : List Rec} (h : OwnR w base v l) : ∀ g, v.ownBlock = some g → base ≤ g ∧ g < w.heap.size := World.ownsRow.lt h

theorem info_rec : (Try.prog.info? 35).map (fun i => (i.zero, i.size, i.bytes)) = some (some (.agg #[.int .i64 0, .int .u32 0, .int .u64 0, .int .u64 0, .int .u64 0, .string ⟨#[]⟩]), 6, 56) := by kernel_rfl

theorem run_append_r (w : World) (ty : TypeId) (base : Nat) (v : Value) (l : List Rec) (f : Rec) (g : Nat)
    (hown : OwnR w base v l) (hb : Blk w g 35 f.cells) (hlen : l.length ≤ 1000000) (hbase : base ≤ w.heap.size) :
    ∃ v' w', (Builtin.append_ #[45, 45] ty #[v, .slice (some ⟨g, 0, none⟩) 1 1]).run Try.prog w = .ok v' w' ∧ OwnR w' base v' (l ++ [f]) ∧ w.grownBy w' v.ownBlock := by
  obtain ⟨i, hi, hz0, hz1, hz2⟩ := info_parts info_rec
  have hn : ∀ j u, f.cells.toList[j]? = some u → w.cell? ((⟨g, 0, none⟩ : Addr).add j) = some u := by
    intro j u hu
    rw [add_flat, Nat.zero_add, hb.cell j]
    simpa using hu
  obtain ⟨v', w', h1, h2, h3, _⟩ := run_append_own (P := Try.prog) (w := w) base 45 ty 35 i _ 6 56 Try.underlying45 hi hz0 hz1 hz2 rfl (by decide) v _ _ hown ⟨g, 0, none⟩ 1 1 f.cells.toList rfl hn
    (fun u hu => rone [f] u (by simpa [rsCells] using hu)) (by unfold maxLen; omega) (by omega) hbase
  refine ⟨v', w', h1, ?_, h3⟩
  unfold OwnR
  rw [List.length_append, rsCells_append]
  have : rsCells [f] = f.cells.toList := by simp [rsCells]
  rw [this]
  exact h2

theorem wpList_append_r {ops : Array Oper} {rest : List Oper} {o : Oper} {a : Act} {Q : Exit → Act → World → Prop} {w : World} (hgd : o.guard = none) (s x : Operand)
    (ho : o.op = .call { callee := .builtin .append, args := #[s, x], argTypes := #[45, 45] })
    (base : Nat) (v : Value) (l : List Rec) (f : Rec) (g : Nat) (hs : a.eval s = v) (hown : OwnR w base v l) (hx : a.eval x = .slice (some ⟨g, 0, none⟩) 1 1) (hb : Blk w g 35 f.cells)
    (hlen : l.length ≤ 1000000) (hbase : base ≤ w.heap.size)
    (h : ∀ v' w', OwnR w' base v' (l ++ [f]) → w.grownBy w' v.ownBlock → wpList Try.prog ops Q rest (a.put o.dst v') w') : wpList Try.prog ops Q (o :: rest) a w := by
  obtain ⟨v', w', hr, h2, h3⟩ := run_append_r w o.type base v l f g hown hb hlen hbase
  refine wpList_plain hgd fun K hK => ?_
  unfold Oper.wp execOp
  simp only [ho, resolve, invoke, builtin, Sem.run_bind, Sem.run_pure, Result.andThen_ok, List.map_toArray, List.map_cons, List.map_nil, hs, hx, hr]
  exact hK _ _ (h v' w' h2 h3)

/-- the six cells of a record at an address -/
def Six (w : World) (b o : Nat) (R : Rec) : Prop :=
  w.cell? ⟨b, o, none⟩ = some (.int .i64 R.kind) ∧ w.cell? ⟨b, o + 1, none⟩ = some (.int .u32 (R.tenant : Int)) ∧ w.cell? ⟨b, o + 2, none⟩ = some (.int .u64 (R.epoch : Int)) ∧
  w.cell? ⟨b, o + 3, none⟩ = some (.int .u64 (R.object : Int)) ∧ w.cell? ⟨b, o + 4, none⟩ = some (.int .u64 (R.seq : Int)) ∧ w.cell? ⟨b, o + 5, none⟩ = some (.string R.body)

theorem RdR.at_ {w : World} {D : Nat} {A : Option Addr} {l : List Rec} (h : RdR w D A l) {k : Nat} (hk : k < l.length) :
    ∃ b off, A = some ⟨b, off, none⟩ ∧ b < D ∧ Six w b (off + k * 6) l[k] := by
  obtain ⟨b, off, e, hb, hc⟩ := h (by rw [rsCells_len]; omega)
  refine ⟨b, off, e, hb, ?_⟩
  have g : ∀ j, j < 6 → w.cell? ⟨b, off + k * 6 + j, none⟩ = l[k].cells.toList[j]? := fun j hj => by
    rw [Nat.add_assoc, hc (k * 6 + j) (by rw [rsCells_len]; omega), rsCells_at l k j hk hj]
  exact ⟨g 0 (by omega), g 1 (by omega), g 2 (by omega), g 3 (by omega), g 4 (by omega), g 5 (by omega)⟩

theorem Six.keep {w w' : World} {b o : Nat} {R : Rec} {D : Nat} (h : Six w b o R) (hb : Below D w w') (hD : b < D) : Six w' b o R := by
  unfold Six at *
  simp only [hb.cell (p := ⟨b, _, none⟩) hD]
  exact h

section
variable {H : Type} {enc : TypeId × Value → H} {W : World} {base : Nat} {v : Value} {d : DataW H} {p : List MemPlace}

/-- a slice of records -/
theorem open_records (h : Arg enc W base 45 v d p) : ∃ A c, ∃ l : List Rec, v = .slice A l.length c ∧ l.length ≤ c ∧ c ≤ maxLen ∧ RdR W W.heap.size A l ∧ ∀ R ∈ l, R.Ok ∧ R.body.size ≤ maxLen := by
  obtain ⟨hv, fuel, hf⟩ := h
  obtain ⟨A, len, cap, rfl⟩ := okWide_slice Try.underlying45 hv
  rcases Go.Deep.open_slice Try.underlying45 hf with ⟨hcs, _⟩ | ⟨a, len', cap', m, n, D, Pl, hcs, _, hl, hm, hmm, _, hi⟩
  · simp [Value.cells] at hcs
    obtain ⟨rfl, rfl, rfl⟩ := hcs
    exact ⟨none, 0, [], rfl, by simp, by simp, Rd.nil _ _ _, by simp⟩
  · simp [Value.cells] at hcs
    obtain ⟨rfl, rfl, rfl⟩ := hcs
    simp only [if_true] at hmm
    have hex : ∀ i, ∃ R : Rec, i < len → (∀ j, j < 6 → W.cell? ((a.add (i * 6)).add j) = R.cells.toList[j]?) ∧ R.Ok ∧ R.body.size ≤ maxLen := fun i => by
      by_cases hlt : i < len
      · obtain ⟨cs', hc, ht⟩ := hi i (by omega)
        rw [six_rec] at hc
        obtain ⟨_, hcl, hat⟩ := World.cells?_some hc
        obtain ⟨R, rfl, ok, hs⟩ := rec_cells ht
        exact ⟨R, fun _ => ⟨hat, ok, hs⟩⟩
      · exact ⟨zeroRec, fun h => absurd h hlt⟩
    obtain ⟨V, hV⟩ := Classical.axiomOfChoice hex
    have hlen : ((List.range len).map V).length = len := by simp
    refine ⟨some a, cap, (List.range len).map V, by rw [hlen], by rw [hlen]; exact hl, hm, fun hpos => ?_, fun R hR => ?_⟩
    · rw [rsCells_len, hlen] at hpos
      have hl0 : 0 < len := by omega
      have h0 := (hV 0 hl0).1 0 (by omega)
      have h0' : W.cell? ((a.add (0 * 6)).add 0) = some (.int .i64 (V 0).kind) := h0
      have hsp : a.spot = none := by simpa [Addr.add] using World.cell?_spot h0'
      obtain ⟨b, off, spot⟩ := a
      simp only at hsp
      subst hsp
      refine ⟨b, off, rfl, ?_, fun j hj => ?_⟩
      · have := World.block_lt_of_cell? W _ h0'
        rwa [add_flat, add_flat] at this
      · rw [rsCells_len, hlen] at hj
        have hj1 : j / 6 < len := by omega
        have h := (hV (j / 6) hj1).1 (j % 6) (by omega)
        rw [add_flat, add_flat, Nat.add_assoc, show j / 6 * 6 + j % 6 = j from by omega] at h
        have e := rsCells_at ((List.range len).map V) (j / 6) (j % 6) (by rw [hlen]; exact hj1) (by omega)
        rw [show j / 6 * 6 + j % 6 = j from by omega] at e
        rw [h, e]
        simp
    · rw [List.mem_map] at hR
      obtain ⟨i, hi2, rfl⟩ := hR
      exact (hV i (by simpa using hi2)).2

/-- a slice of bytes as a cell -/
def BV (x : Option Addr × Nat × List UInt8) : Value := .slice x.1 x.2.2.length x.2.1

theorem one_bytes : Try.prog.cellsOf 24 = 1 := by kernel_rfl

theorem bytes_cell {sp : Nat → Bool} {n : Nat} {u : Value} {y : DataW H × List MemPlace} (hsp : ∀ b, sp b = true) (h : DataW.trod enc Try.prog W 0 sp true n 24 [u] = some y) :
    ∃ x : Option Addr × Nat × List UInt8, u = BV x ∧ x.2.2.length ≤ x.2.1 ∧ x.2.1 ≤ maxLen ∧ RdB W W.heap.size x.1 x.2.2 := by
  rcases open_ints Try.underlying24 Try.underlying5 (by kernel_rfl) h with ⟨hcs, _⟩ | ⟨x, l, c, zs, hcs, _, hl, hm, hz, _, hcell, hwz⟩
  · simp at hcs
    subst hcs
    exact ⟨(none, 0, []), rfl, by simp, by simp, Rd.nil _ _ _⟩
  · simp at hcs
    subst hcs
    rw [hsp, if_pos rfl] at hz
    have hlen : ((zs.take l).map fun n => UInt8.ofNat n.toNat).length = l := by simp; omega
    refine ⟨(some x, c, (zs.take l).map fun n => UInt8.ofNat n.toNat), by unfold BV; simp only; rw [hlen], by simp only; rw [hlen]; exact hl, hm, fun hpos => ?_⟩
    have hl0 : 0 < l := by rw [List.length_map] at hpos; simp only at hpos; omega
    have h0 := hcell 0 (by omega)
    have hsp : x.spot = none := by simpa [Addr.add] using World.cell?_spot h0
    obtain ⟨b, off, spot⟩ := x
    simp only at hsp
    subst hsp
    refine ⟨b, off, rfl, ?_, fun j hj => ?_⟩
    · have := World.block_lt_of_cell? W _ h0
      rwa [add_flat] at this
    · have hj' : j < l := by rw [List.length_map] at hj; simp only at hj; omega
      have hjz : j < zs.length := by omega
      have := hcell j hjz
      rw [add_flat] at this
      rw [this]
      have hw := hwz _ (List.getElem_mem hjz)
      simp only [List.getD_eq_getElem?_getD, List.getElem?_eq_getElem hjz, Option.getD_some, List.getElem?_map, List.getElem?_take, if_pos hj', Option.map_some, B, u8_of hw]

/-- a slice of slices of bytes -/
theorem open_bytess (h : Arg enc W base 46 v d p) : ∃ A c, ∃ l : List (Option Addr × Nat × List UInt8), v = .slice A l.length c ∧ l.length ≤ c ∧ c ≤ maxLen ∧ Rd W W.heap.size A (l.map BV) ∧ ∀ x ∈ l, x.2.2.length ≤ x.2.1 ∧ x.2.1 ≤ maxLen ∧ RdB W W.heap.size x.1 x.2.2 := by
  obtain ⟨hv, fuel, hf⟩ := h
  obtain ⟨A, len, cap, rfl⟩ := okWide_slice Try.underlying46 hv
  rcases Go.Deep.open_slice1 Try.underlying46 one_bytes hf with ⟨hcs, _⟩ | ⟨a, len', cap', m, n, U, D, Pl, hcs, _, hl, hm, hmm, _, hi⟩
  · simp [Value.cells] at hcs
    obtain ⟨rfl, rfl, rfl⟩ := hcs
    exact ⟨none, 0, [], rfl, by simp, by simp, Rd.nil _ _ _, by simp⟩
  · simp [Value.cells] at hcs
    obtain ⟨rfl, rfl, rfl⟩ := hcs
    simp only [if_true] at hmm
    have hex : ∀ i, ∃ x : Option Addr × Nat × List UInt8, i < len → W.cell? (a.add i) = some (BV x) ∧ x.2.2.length ≤ x.2.1 ∧ x.2.1 ≤ maxLen ∧ RdB W W.heap.size x.1 x.2.2 := fun i => by
      by_cases hlt : i < len
      · obtain ⟨h1, h2⟩ := hi i (by omega)
        obtain ⟨x, e, r⟩ := bytes_cell (fun _ => rfl) h2
        exact ⟨x, fun _ => ⟨by rw [h1, e], r⟩⟩
      · exact ⟨(none, 0, []), fun h => absurd h hlt⟩
    obtain ⟨V, hV⟩ := Classical.axiomOfChoice hex
    have hlen : ((List.range len).map V).length = len := by simp
    refine ⟨some a, cap, (List.range len).map V, by rw [hlen], by rw [hlen]; exact hl, hm, fun hpos => ?_, fun x hx => ?_⟩
    · rw [List.length_map, hlen] at hpos
      have h0 := (hV 0 hpos).1
      have hsp : a.spot = none := by simpa [Addr.add] using World.cell?_spot h0
      obtain ⟨b, off, spot⟩ := a
      simp only at hsp
      subst hsp
      refine ⟨b, off, rfl, ?_, fun j hj => ?_⟩
      · have := World.block_lt_of_cell? W _ h0
        rwa [add_flat] at this
      · rw [List.length_map, hlen] at hj
        have h := (hV j hj).1
        rw [add_flat] at h
        rw [h]
        simp [hj]
    · rw [List.mem_map] at hx
      obtain ⟨i, hi2, rfl⟩ := hx
      exact (hV i (by simpa using hi2)).2
end

end Go.Proofs.Ytehhgfkbcjbciaa
