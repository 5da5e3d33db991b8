/- Arguments that are records, 64-bit numbers, opened. -/
import Derived.Test.YtehhgfkbcjbciaaOpen
import Derived.Test.YtehhgfkbcjbciaaRec
import Derived.ChangeSame
import Derived.ChangeMaps5
namespace Go.Proofs.Ytehhgfkbcjbciaa
open Go.ChangeShapes Go.WideShapes Go.ChangeAt Go.RowKit

section
variable {H : Type} {enc : TypeId × Value → H} {W : World} {base : Nat} {v : Value} {d : DataW H} {p : List MemPlace}

/-- a number of 64 bits -/
theorem open_u64 (h : Arg enc W base 33 v d p) : ∃ n : Nat, v = .int .u64 (n : Int) ∧ n < 18446744073709551616 := by
  obtain ⟨n, rfl, _, _, wn⟩ := open_int Try.underlying33 h.1 h.2
  have := bounds_u64 wn
  exact ⟨n.toNat, by rw [Int.toNat_of_nonneg this.1], by omega⟩

theorem int_cell {base : Nat} {sp : Nat → Bool} {held : Bool} {n : Nat} {t : TypeId} {k : IntKind} {u : Value} {y : DataW H × List MemPlace} (ht : Try.prog.underlying t = some (.int k)) (h : DataW.trod enc Try.prog W base sp held n t [u] = some y) : ∃ z, u = .int k z ∧ (Lit.int k z).wf = true := by
  obtain ⟨z, h1, _, h2⟩ := DataW.trod_int ht h
  simp at h1
  exact ⟨z, h1, h2⟩

theorem str_cell {base : Nat} {sp : Nat → Bool} {held : Bool} {n : Nat} {t : TypeId} {u : Value} {y : DataW H × List MemPlace} (ht : Try.prog.underlying t = some .string) (h : DataW.trod enc Try.prog W base sp held n t [u] = some y) : ∃ s, u = .string s ∧ s.size ≤ maxLen := by
  obtain ⟨s, h1, _, h2⟩ := DataW.trod_string ht h
  simp at h1
  exact ⟨s, h1, h2⟩

theorem one_int : Try.prog.cellsOf 3 = 1 := by kernel_rfl
theorem one_u32 : Try.prog.cellsOf 26 = 1 := by kernel_rfl
theorem one_u64 : Try.prog.cellsOf 33 = 1 := by kernel_rfl
theorem one_str : Try.prog.cellsOf 9 = 1 := by kernel_rfl
theorem six_rec : Try.prog.cellsOf 35 = 6 := by kernel_rfl

/-- the cells of a record that can be read -/
theorem rec_cells {base : Nat} {sp : Nat → Bool} {held : Bool} {fuel : Nat} {cs : List Value} {x : DataW H × List MemPlace} (h : DataW.trod enc Try.prog W base sp held fuel 35 cs = some x) :
    ∃ R : Rec, cs = R.cells.toList ∧ R.Ok ∧ R.body.size ≤ maxLen := by
  obtain ⟨xs, n, _, _, hl, hlen, hg⟩ := DataW.trod_struct Try.underlying35 h
  rw [six_rec] at hl
  match cs, hl with
  | [a, b, c, d, e, f], _ =>
    match xs, hlen with
    | [x0, x1, x2, x3, x4, x5], _ =>
      have g0 := hg 0 _ rfl
      have g1 := hg 1 _ rfl
      have g2 := hg 2 _ rfl
      have g3 := hg 3 _ rfl
      have g4 := hg 4 _ rfl
      have g5 := hg 5 _ rfl
      simp [one_int, one_u32, one_u64, one_str] at g0 g1 g2 g3 g4 g5
      obtain ⟨z0, rfl, w0⟩ := int_cell Try.underlying3 g0
      obtain ⟨z1, rfl, w1⟩ := int_cell Try.underlying26 g1
      obtain ⟨z2, rfl, w2⟩ := int_cell Try.underlying33 g2
      obtain ⟨z3, rfl, w3⟩ := int_cell Try.underlying33 g3
      obtain ⟨z4, rfl, w4⟩ := int_cell Try.underlying33 g4
      obtain ⟨s, rfl, hs⟩ := str_cell Try.underlying9 g5
      have b0 := bounds_i64 w0
      have b1 := bounds_u32 w1
      have b2 := bounds_u64 w2
      have b3 := bounds_u64 w3
      have b4 := bounds_u64 w4
      refine ⟨⟨z0, z1.toNat, z2.toNat, z3.toNat, z4.toNat, s⟩, ?_, ⟨by simp only []; omega, by simp only []; omega, by simp only []; omega, by simp only []; omega, by simp only []; omega, by simp only []; omega⟩, hs⟩
      simp only [Rec.cells, Int.toNat_of_nonneg b1.1, Int.toNat_of_nonneg b2.1, Int.toNat_of_nonneg b3.1, Int.toNat_of_nonneg b4.1]

/-- a record -/
theorem open_record (h : Arg enc W base 35 v d p) : ∃ R : Rec, v = .agg R.cells ∧ R.Ok ∧ R.body.size ≤ maxLen := by
  obtain ⟨hv, fuel, hf⟩ := h
  obtain ⟨cs, rfl, _⟩ := okWide_struct Try.underlying35 hv
  obtain ⟨R, hR, ok, hs⟩ := rec_cells hf
  refine ⟨R, ?_, ok, hs⟩
  congr 1
  apply Array.ext'
  simpa [Value.cells] using hR
end

end Go.Proofs.Ytehhgfkbcjbciaa
