/- The walk of Names. -/
import Derived.Test.YtehhgfkbcjbciaaBytes
namespace Go.Proofs.Ytehhgfkbcjbciaa
open Go.RowKit

/-- two blocks of the same cells, one behind the other -/
theorem two_blocks (w : World) (cs : Array Value) (e : TypeId) : ∃ W1, W1 = (w.alloc (.cells cs e)).alloc (.cells cs e) ∧ Below w.heap.size w W1 ∧
    (∀ k, W1.cell? ⟨w.heap.size, k, none⟩ = cs[k]?) ∧ (∀ k, W1.cell? ⟨w.heap.size + 1, k, none⟩ = cs[k]?) := by
  refine ⟨_, rfl, ((Below.refl _ _).alloc (Nat.le_refl _) _).alloc (by simp) _, fun k => ?_, fun k => ?_⟩
  · rw [cell_of_row _ w.heap.size k cs e (0, 0) ?_]
    rw [Below.heap_alloc _ _ _ (by simp), heap_alloc_new]
  · rw [cell_of_row _ (w.heap.size + 1) k cs e (0, 0) ?_]
    have h := heap_alloc_new (w.alloc (.cells cs e)) (.cells cs e)
    simpa using h

def namesC : Array Value := #[.int .i64 0, .int .i64 1, .int .i64 2, .int .i64 3, .int .i64 4, .int .i64 5, .int .i64 6, .int .i64 7, .int .i64 8, .int .i64 9, .int .i64 10, .int .i64 11, .int .i64 12, .int .i64 64, .int .i64 4194304, .int .i64 400, .int .i64 39, .int .i64 1000, .int .i64 8000, .int .i64 300, .int .i64 6, .int .i64 65536, .int .i64 1000, .int .i64 3000, .int .i64 40000, .int .i64 4096, .int .i64 60, .int .i64 1099511627776, .int .i64 2000, .int .i64 20, .int .i64 4000, .int .i64 12, .int .i64 1099511627776, .int .i64 1, .int .i64 2, .int .i64 3, .int .i64 4, .int .i64 1, .int .i64 2, .int .i64 3, .int .i64 4, .int .i64 5, .int .i64 6, .int .i64 7, .int .i64 8, .int .i64 9, .int .i64 10, .int .i64 11, .int .i64 12, .int .i64 13, .int .i64 14]

def namesL : List Int := [0, 1, 2, 3, 4, 5, 6, 7, 8, 9, 10, 11, 12, 64, 4194304, 400, 39, 1000, 8000, 300, 6, 65536, 1000, 3000, 40000, 4096, 60, 1099511627776, 2000, 20, 4000, 12, 1099511627776, 1, 2, 3, 4, 1, 2, 3, 4, 5, 6, 7, 8, 9, 10, 11, 12, 13, 14]

theorem namesC_at (k : Nat) (h : k < 51) : ∃ n : Int, namesC[k]? = some (.int .i64 n) := by
  have e : namesC = (namesL.map (Value.int .i64)).toArray := rfl
  have hl : k < namesL.length := h
  refine ⟨namesL[k], ?_⟩
  rw [e, List.getElem?_toArray, List.getElem?_map, List.getElem?_eq_getElem hl]
  rfl

set_option maxRecDepth 100000 in
set_option maxHeartbeats 1000000 in
theorem names_walk (w : World) : Calls Try.prog 3 #[] w fun e w' => e = .returned (.bool true) ∧ Below w.heap.size w w' := by
  go_enter Try.func3, Try.ntmps3
  go_wp2
  obtain ⟨W1, hW1, hbel, hc0, hc1⟩ := two_blocks w namesC 3
  unfold namesC at hW1
  rw [← hW1]
  clear hW1
  go_loopw [3] (fun i wr => ∃ k : Nat, k ≤ 51 ∧ i = .int .i64 k ∧ ∃ n, wr = W1.drewN n) (fun i _ => 51 - (intOf i).toNat)
  case atStart => exact ⟨0, Nat.zero_le _, rfl, 0, rfl⟩
  case round =>
    obtain ⟨k, hk, rfl, n, rfl⟩ := hrel
    by_cases hlt : k < 51
    · obtain ⟨m, hm⟩ := namesC_at k hlt
      have h0 := (hc0 k).trans hm
      have h1 := (hc1 k).trans hm
      clear hc0 hc1 hm
      go_wp2
      go_quiet (fail)
      go_wp2
      go_roundw
      case rel => exact ⟨k + 1, by omega, by go_num, _, rfl⟩
      case measure => simp [intOf]; omega
    · clear hc0 hc1
      go_wp2
      go_ret
      exact ⟨rfl, hbel.trans ⟨rfl, rfl, rfl, Nat.le_refl _, fun _ _ => rfl⟩⟩
end Go.Proofs.Ytehhgfkbcjbciaa
