/- A record in a block of its own, and bytes that are being appended beside it. -/
import Derived.Test.YtehhgfkbcjbciaaRecPlain
namespace Go.Proofs.Ytehhgfkbcjbciaa
open Go.RowKit

/-- block b holds the record R, boxed -/
def Box (w : World) (b : Nat) (R : Rec) : Prop := w.heap[b]? = some (.cells R.cells 35 (0, 0))

theorem Box.lt {w : World} {b : Nat} {R : Rec} (h : Box w b R) : b < w.heap.size := (Array.getElem?_eq_some_iff.1 h).1

theorem Box.below {w w' : World} {b D : Nat} {R : Rec} (h : Box w b R) (hb : Below D w w') (hD : b < D) : Box w' b R := (hb.block b hD).trans h

theorem Box.alloc {w : World} {b : Nat} {R : Rec} (h : Box w b R) (o : Obj) : Box (w.alloc o) b R := (Below.heap_alloc w o b h.lt).trans h

theorem Box.grown {w w' : World} {b : Nat} {R : Rec} {row : Option Nat} (h : Box w b R) (hb : w.grownBy w' row) (hr : ∀ g, row = some g → b ≠ g) : Box w' b R :=
  (hb.block b h.lt (fun e => hr b e.symm rfl)).trans h

theorem Box.cells {w : World} {b : Nat} {R : Rec} (h : Box w b R) : w.cell? ⟨b, 0, none⟩ = some (.int .i64 R.kind) ∧ w.cell? ⟨b, 1, none⟩ = some (.int .u32 (R.tenant : Int)) ∧ w.cell? ⟨b, 2, none⟩ = some (.int .u64 (R.epoch : Int)) ∧
    w.cell? ⟨b, 3, none⟩ = some (.int .u64 (R.object : Int)) ∧ w.cell? ⟨b, 4, none⟩ = some (.int .u64 (R.seq : Int)) ∧ w.cell? ⟨b, 5, none⟩ = some (.string R.body) := by
  refine ⟨?_, ?_, ?_, ?_, ?_, ?_⟩ <;> (rw [cell_of_row w b _ R.cells _ (0, 0) h]; rfl)

/-- bytes of the call's own beside a boxed record -/
structure St (w0 w : World) (v : Value) (L : List UInt8) (R : Rec) : Prop where
  own : OwnB w (w0.heap.size + 1) v L
  box : Box w w0.heap.size R
  bel : Below w0.heap.size w0 w

theorem St.lt {w0 w : World} {v : Value} {L : List UInt8} {R : Rec} (h : St w0 w v L R) : w0.heap.size + 1 ≤ w.heap.size := h.box.lt

theorem St.below {w0 w w' : World} {v : Value} {L : List UInt8} {R : Rec} (h : St w0 w v L R) (hb : Below w.heap.size w w') : St w0 w' v L R :=
  ⟨h.own.below hb, h.box.below hb h.box.lt, h.bel.trans (hb.mono h.bel.size)⟩

theorem St.app {w0 w w' : World} {v v' : Value} {L L' : List UInt8} {R : Rec} (h : St w0 w v L R) (own : OwnB w' (w0.heap.size + 1) v' L') (g : w.grownBy w' v.ownBlock) : St w0 w' v' L' R :=
  ⟨own, h.box.grown g (fun g hg => by have := (h.own.lt g hg).1; omega), h.bel.grown g h.bel.size (fun g hg => by have := (h.own.lt g hg).1; omega)⟩

/-- a record stored into a block, cell by cell -/
theorem stored6 {w0 w1 : World} {g D : Nat} {p q r s t u : Value} (h : Blk w1 g 35 #[p, q, r, s, t, u]) (hb : Below D w0 w1) (hD : D ≤ g) (a b c d e f : Value) :
    ∃ w2, w2 = (((((w1.setCell ⟨g, 0, none⟩ a).setCell ⟨g, 1, none⟩ b).setCell ⟨g, 2, none⟩ c).setCell ⟨g, 3, none⟩ d).setCell ⟨g, 4, none⟩ e).setCell ⟨g, 5, none⟩ f ∧ Blk w2 g 35 #[a, b, c, d, e, f] ∧ Below D w0 w2 ∧ Below g w1 w2 := by
  refine ⟨_, rfl, ?_, (((((hb.setCell hD _).setCell hD _).setCell hD _).setCell hD _).setCell hD _).setCell hD _, ((((((Below.refl g w1).setCell (Nat.le_refl _) _).setCell (Nat.le_refl _) _).setCell (Nat.le_refl _) _).setCell (Nat.le_refl _) _).setCell (Nat.le_refl _) _).setCell (Nat.le_refl _) _⟩
  have h6 := (((((h.store 0 a).store 1 b).store 2 c).store 3 d).store 4 e).store 5 f
  exact h6

theorem cells6 {w : World} {g : Nat} {t : TypeId} {a b c d e f : Value} (h : Blk w g t #[a, b, c, d, e, f]) : w.cell? ⟨g, 0, none⟩ = some a ∧ w.cell? ⟨g, 1, none⟩ = some b ∧ w.cell? ⟨g, 2, none⟩ = some c ∧ w.cell? ⟨g, 3, none⟩ = some d ∧ w.cell? ⟨g, 4, none⟩ = some e ∧ w.cell? ⟨g, 5, none⟩ = some f :=
  ⟨h.cell 0, h.cell 1, h.cell 2, h.cell 3, h.cell 4, h.cell 5⟩

theorem free6 {w : World} {g : Nat} {t : TypeId} {cs : Array Value} (h : Blk w g t cs) : w.frozen? ⟨g, 0, none⟩ = false ∧ w.frozen? ⟨g, 1, none⟩ = false ∧ w.frozen? ⟨g, 2, none⟩ = false ∧ w.frozen? ⟨g, 3, none⟩ = false ∧ w.frozen? ⟨g, 4, none⟩ = false ∧ w.frozen? ⟨g, 5, none⟩ = false :=
  ⟨h.frozen 0, h.frozen 1, h.frozen 2, h.frozen 3, h.frozen 4, h.frozen 5⟩

end Go.Proofs.Ytehhgfkbcjbciaa
