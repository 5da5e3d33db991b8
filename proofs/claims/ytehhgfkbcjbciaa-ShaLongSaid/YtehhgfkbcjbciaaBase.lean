/- What the walks share: a slice that reads as a list, 32-bit words as numbers, bytes as values. -/
import Derived.Test.YtehhgfkbcjbciaaRows
import Derived.WalkKit
import Derived.WalkSpells
import Derived.WalkLawsBesides
import Derived.Deep.QuietTactic
import Derived.BigQuiet
import Derived.Lib.Hide
namespace Go.Proofs.Ytehhgfkbcjbciaa
open Go.RowKit

/-- a byte as a value -/
def B (c : UInt8) : Value := .int .u8 (c.toNat : Int)

/-- the cells of the slice value with the address A read as xs (one cell an element); its block lies below D -/
def Rd (w : World) (D : Nat) (A : Option Addr) (xs : List Value) : Prop :=
  0 < xs.length → ∃ b off, A = some ⟨b, off, none⟩ ∧ b < D ∧ ∀ j, j < xs.length → w.cell? ⟨b, off + j, none⟩ = xs[j]?

theorem Rd.nil (w : World) (D : Nat) (A : Option Addr) : Rd w D A [] := fun h => absurd h (by simp)

theorem Rd.keep {w w' : World} {D : Nat} {A : Option Addr} {xs : List Value} (h : Rd w D A xs) (hk : ∀ p : Addr, p.block < D → w'.cell? p = w.cell? p) : Rd w' D A xs := fun hl => by
  obtain ⟨b, off, e, hb, hc⟩ := h hl
  exact ⟨b, off, e, hb, fun j hj => (hk _ hb).trans (hc j hj)⟩

theorem Rd.below {w w' : World} {D : Nat} {A : Option Addr} {xs : List Value} (h : Rd w D A xs) (hb : Below D w w') : Rd w' D A xs := h.keep fun _ hp => hb.cell hp

theorem Rd.mono {w : World} {D D' : Nat} {A : Option Addr} {xs : List Value} (h : Rd w D A xs) (hD : D ≤ D') : Rd w D' A xs := fun hl => by
  obtain ⟨b, off, e, hb, hc⟩ := h hl
  exact ⟨b, off, e, by omega, hc⟩

theorem Rd.alloc {w : World} {D : Nat} {A : Option Addr} {xs : List Value} (h : Rd w D A xs) (hD : D ≤ w.heap.size) (o : Obj) : Rd (w.alloc o) D A xs :=
  h.below ((Below.refl _ _).alloc hD _)

theorem Rd.drew {w : World} {D : Nat} {A : Option Addr} {xs : List Value} (h : Rd w D A xs) : Rd w.drew D A xs := h

theorem Rd.at_ {w : World} {D : Nat} {A : Option Addr} {xs : List Value} (h : Rd w D A xs) {k : Nat} (hk : k < xs.length) :
    ∃ b off, A = some ⟨b, off, none⟩ ∧ b < D ∧ w.cell? ⟨b, off + k, none⟩ = some xs[k] := by
  obtain ⟨b, off, e, hb, hc⟩ := h (by omega)
  exact ⟨b, off, e, hb, by rw [hc k hk, List.getElem?_eq_getElem hk]⟩

theorem Rd.of_own {w : World} {base : Nat} {e : TypeId} {A : Option Addr} {n c : Nat} {xs : List Value} (h : w.ownsRow base e 1 (.slice A n c) n xs) : Rd w w.heap.size A xs := fun hl => by
  rcases h.2 with ⟨hv, hn⟩ | ⟨g, cap, cur, hv, hb, hg, hnc, hcm, hcs, ht⟩
  · have := h.1; omega
  · injection hv with hA hn hc
    subst hA
    refine ⟨g, 0, rfl, (Array.getElem?_eq_some_iff.1 hg).1, fun j hj => ?_⟩
    have hj' : j < n := by have := h.1; omega
    rw [cell_of_row w g (0 + j) cur e (0, 0) hg, ← ht, List.getElem?_take, if_pos (by omega)]
    simp

theorem Rd.new (w : World) (cs : Array Value) (e : TypeId) (fz : Nat × Nat) : Rd (w.alloc (.cells cs e fz)) (w.heap.size + 1) (some ⟨w.heap.size, 0, none⟩) cs.toList := fun _ =>
  ⟨w.heap.size, 0, rfl, by omega, fun j _ => by
    rw [cell_of_row _ w.heap.size (0 + j) cs e fz (heap_alloc_new w _), Nat.zero_add, Array.getElem?_toList]⟩

theorem Rd.new2 (w : World) (o : Obj) (cs : Array Value) (e : TypeId) (fz : Nat × Nat) : Rd ((w.alloc o).alloc (.cells cs e fz)) (w.heap.size + 1 + 1) (some ⟨w.heap.size + 1, 0, none⟩) cs.toList := by
  have h := Rd.new (w.alloc o) cs e fz
  simpa using h

/-- a call that leaves the world alone, inside a region that draws -/
theorem quiet_same {P : Program} {f : FuncId} {args : Array Value} {w : World} {n : Nat} {v : Value}
    (h : Calls P f args (w.drewN n) fun e w' => e = .returned v ∧ w.drewN n = w') : Calls P f args (w.drewN n) fun e w'' => e = .returned v ∧ ∃ m, w'' = w.drewN m :=
  h.mono fun _ _ ⟨he, hm⟩ => ⟨he, n, hm.symm⟩

end Go.Proofs.Ytehhgfkbcjbciaa
