/- sha.start, sha.constants. -/
import Derived.Test.YtehhgfkbcjbciaaRight
import Derived.Test.YtehhgfkbcjbciaaArr
namespace Go.Proofs.Ytehhgfkbcjbciaa
open Go.RowKit

/-- a word as a value -/
def WV (x : W32) : Value := .int .u32 (U x)

/-- words as cells -/
def wcells (l : List W32) : Array Value := (l.map WV).toArray

theorem wcells_size (l : List W32) : (wcells l).size = l.length := by simp [wcells]
theorem wcells_one (l : List W32) : (wcells l).all (·.oneCell') = true := by
  rw [Array.all_eq_true_iff_forall_mem]
  intro v hv
  unfold wcells at hv
  rw [List.mem_toArray, List.mem_map] at hv
  obtain ⟨x, _, rfl⟩ := hv
  rfl

def z8 : List W32 := List.replicate 8 0#32
def z64 : List W32 := List.replicate 64 0#32

theorem zero8 : (Try.prog.info? 85).map (fun i => (i.zero, i.size)) = some (some (.agg (wcells z8)), (wcells z8).size) := by kernel_rfl
theorem zero64 : (Try.prog.info? 84).map (fun i => (i.zero, i.size)) = some (some (.agg (wcells z64)), (wcells z64).size) := by kernel_rfl
theorem size8 : (Try.prog.info? 85).map (·.size) = some 8 := by kernel_rfl
theorem size64 : (Try.prog.info? 84).map (·.size) = some 64 := by kernel_rfl
theorem ks_len : ks.length = 64 := by decide
theorem h0s_len : h0s.length = 8 := by decide
theorem z8_len : z8.length = 8 := by decide
theorem z64_len : z64.length = 64 := by decide

set_option maxRecDepth 100000 in
set_option maxHeartbeats 1000000 in
theorem start_any (w : World) : Calls Try.prog 63 #[] w fun e w' => e = .returned (.agg (wcells h0s)) ∧ Below w.heap.size w w' := by
  have blk0 := Blk.new w 85 (wcells z8)
  go_enter Try.func63, Try.ntmps63
  go_wp2_with (first
    | (refine wpList_alloc_row rfl 85 rfl (wcells z8) zero8 ?_)
    | (refine wpList_build_row rfl 85 _ rfl (.agg (wcells h0s)) (by kernel_rfl) ?_)
    | (refine wpList_store_row rfl 85 _ _ rfl w.heap.size 85 (wcells z8) (wcells h0s) rfl rfl blk0 (by simp only [wcells_size, h0s_len, z8_len]) (wcells_one _) (by rw [wcells_size, h0s_len, size8]) ?_; intro w1 blk1 g1 _))
  have hl := load_row w1 85 w.heap.size 85 (wcells h0s) blk1 8 26 Try.underlying85 (by rw [wcells_size, h0s_len, size8])
  refine bodyPost_ret (v := .agg (wcells h0s)) (by simp [results, Try.results63, Act.put, asAddr, hl]) rfl ⟨rfl, ((Below.refl _ w).alloc (Nat.le_refl _) _).grown g1 (by simp) (fun g hg => by injection hg with e; omega)⟩

set_option maxRecDepth 100000 in
set_option maxHeartbeats 1000000 in
theorem constants_any (w : World) : Calls Try.prog 75 #[] w fun e w' => e = .returned (.agg (wcells ks)) ∧ Below w.heap.size w w' := by
  have blk0 := Blk.new w 84 (wcells z64)
  go_enter Try.func75, Try.ntmps75
  go_wp2_with (first
    | (refine wpList_alloc_row rfl 84 rfl (wcells z64) zero64 ?_)
    | (refine wpList_build_row rfl 84 _ rfl (.agg (wcells ks)) (by kernel_rfl) ?_)
    | (refine wpList_store_row rfl 84 _ _ rfl w.heap.size 84 (wcells z64) (wcells ks) rfl rfl blk0 (by simp only [wcells_size, ks_len, z64_len]) (wcells_one _) (by rw [wcells_size, ks_len, size64]) ?_; intro w1 blk1 g1 _))
  have hl := load_row w1 84 w.heap.size 84 (wcells ks) blk1 64 26 Try.underlying84 (by rw [wcells_size, ks_len, size64])
  refine bodyPost_ret (v := .agg (wcells ks)) (by simp [results, Try.results75, Act.put, asAddr, hl]) rfl ⟨rfl, ((Below.refl _ w).alloc (Nat.le_refl _) _).grown g1 (by simp) (fun g hg => by injection hg with e; omega)⟩

end Go.Proofs.Ytehhgfkbcjbciaa
