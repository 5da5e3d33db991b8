/- Arguments opened: what the walks are told of each kind of argument. -/
import Derived.Test.YtehhgfkbcjbciaaBytes
import Derived.ProofKit
import Derived.OpenShut
import Derived.ShutString
import Derived.ChangeOld
namespace Go.Proofs.Ytehhgfkbcjbciaa
open Go.ChangeShapes Go.WideShapes Go.ChangeAt Go.RowKit

theorem ownKnobNone : ownKnob Try.prog.godebug = none := by kernel_rfl
theorem laidOutAll : laidOutB Try.prog = true := by kernel_rfl

section
variable {H : Type} {enc : TypeId × Value → H} {W : World} {base : Nat} {v : Value} {d : DataW H} {p : List MemPlace}

/-- what is told of an argument: its reading, kept -/
def Arg (enc : TypeId × Value → H) (W : World) (base : Nat) (t : TypeId) (v : Value) (d : DataW H) (p : List MemPlace) : Prop :=
  Value.okWide Try.prog W .any base t v ∧ DataW.Trod enc Try.prog W 0 (fun _ => true) true t v d p

theorem Arg.lt {t : TypeId} (h : Arg enc W base t v d p) : ∀ x ∈ p, x.block < W.heap.size := by
  obtain ⟨m, hm⟩ := h.2
  exact DataW.trod_lt m _ _ _ hm

theorem u8_of {n : Int} (h : (Lit.int .u8 n).wf = true) : ((UInt8.ofNat n.toNat).toNat : Int) = n := by
  have := bounds_u8 h
  simp; omega

/-- a slice of bytes -/
theorem open_bytes (h : Arg enc W base 24 v d p) : ∃ A l c, v = .slice A l.length c ∧ l.length ≤ c ∧ c ≤ maxLen ∧ RdB W W.heap.size A l := by
  obtain ⟨hv, fuel, hf⟩ := h
  obtain ⟨A, len, cap, rfl⟩ := okWide_slice Try.underlying24 hv
  rcases open_ints Try.underlying24 Try.underlying5 (by kernel_rfl) hf with ⟨hcs, _⟩ | ⟨x, l, c, zs, hcs, _, hl, hm, hz, _, hcell, hwz⟩
  · simp [Value.cells] at hcs
    obtain ⟨rfl, rfl, rfl⟩ := hcs
    exact ⟨none, [], 0, rfl, by simp, by simp, Rd.nil _ _ _⟩
  · simp [Value.cells] at hcs
    obtain ⟨rfl, rfl, rfl⟩ := hcs
    simp only [if_true] at hz
    have hlen : ((zs.take len).map fun n => UInt8.ofNat n.toNat).length = len := by simp; omega
    refine ⟨some x, (zs.take len).map fun n => UInt8.ofNat n.toNat, cap, by rw [hlen], by rw [hlen]; exact hl, hm, fun hpos => ?_⟩
    have hl0 : 0 < len := by rw [List.length_map] at hpos; omega
    have h0 := hcell 0 (by omega)
    have hsp : x.spot = none := by simpa [Addr.add] using World.cell?_spot h0
    obtain ⟨b, off, spot⟩ := x
    simp only at hsp
    subst hsp
    refine ⟨b, off, rfl, ?_, fun j hj => ?_⟩
    · have := World.block_lt_of_cell? W _ h0
      rwa [add_flat] at this
    · have hj' : j < len := by rw [List.length_map] at hj; omega
      have hjz : j < zs.length := by omega
      have := hcell j hjz
      rw [add_flat] at this
      rw [this]
      have hw := hwz _ (List.getElem_mem hjz)
      simp only [List.getD_eq_getElem?_getD, List.getElem?_eq_getElem hjz, Option.getD_some, List.getElem?_map, List.getElem?_take, if_pos hj', Option.map_some, B, u8_of hw]

/-- an int -/
theorem open_i64 (h : Arg enc W base 3 v d p) : ∃ n : Int, v = .int .i64 n ∧ -9223372036854775808 ≤ n ∧ n ≤ 9223372036854775807 := by
  obtain ⟨n, rfl, _, _, wn⟩ := open_int Try.underlying3 h.1 h.2
  have := bounds_i64 wn
  exact ⟨n, rfl, by omega, by omega⟩

/-- a byte -/
theorem open_u8 (h : Arg enc W base 5 v d p) : ∃ c : UInt8, v = B c := by
  obtain ⟨n, rfl, _, _, wn⟩ := open_int Try.underlying5 h.1 h.2
  exact ⟨UInt8.ofNat n.toNat, by rw [B, u8_of wn]⟩

/-- a slice of ints -/
theorem open_i64s (h : Arg enc W base 22 v d p) : ∃ A c, ∃ l : List Int, v = .slice A l.length c ∧ l.length ≤ c ∧ c ≤ maxLen ∧ Rd W W.heap.size A (l.map (Value.int .i64)) ∧ ∀ n ∈ l, -9223372036854775808 ≤ n ∧ n ≤ 9223372036854775807 := by
  obtain ⟨hv, fuel, hf⟩ := h
  obtain ⟨A, len, cap, rfl⟩ := okWide_slice Try.underlying22 hv
  rcases open_ints Try.underlying22 Try.underlying3 (by kernel_rfl) hf with ⟨hcs, _⟩ | ⟨x, l, c, zs, hcs, _, hl, hm, hz, _, hcell, hwz⟩
  · simp [Value.cells] at hcs
    obtain ⟨rfl, rfl, rfl⟩ := hcs
    exact ⟨none, 0, [], rfl, by simp, by simp, Rd.nil _ _ _, by simp⟩
  · simp [Value.cells] at hcs
    obtain ⟨rfl, rfl, rfl⟩ := hcs
    simp only [if_true] at hz
    have hlen : (zs.take len).length = len := by simp; omega
    refine ⟨some x, cap, zs.take len, by rw [hlen], by rw [hlen]; exact hl, hm, fun hpos => ?_, fun n hn => ?_⟩
    · have hl0 : 0 < len := by rw [List.length_map] at hpos; omega
      have h0 := hcell 0 (by omega)
      have hsp : x.spot = none := by simpa [Addr.add] using World.cell?_spot h0
      obtain ⟨b, off, spot⟩ := x
      simp only at hsp
      subst hsp
      refine ⟨b, off, rfl, ?_, fun j hj => ?_⟩
      · have := World.block_lt_of_cell? W _ h0
        rwa [add_flat] at this
      · have hj' : j < len := by rw [List.length_map] at hj; omega
        have hjz : j < zs.length := by omega
        have := hcell j hjz
        rw [add_flat] at this
        rw [this]
        simp only [List.getD_eq_getElem?_getD, List.getElem?_eq_getElem hjz, Option.getD_some, List.getElem?_map, List.getElem?_take, if_pos hj', Option.map_some]
    · have := bounds_i64 (hwz n (List.mem_of_mem_take hn))
      omega
end

end Go.Proofs.Ytehhgfkbcjbciaa
