/- sha.Sum; the Sum of no hash. -/
import Derived.Test.YtehhgfkbcjbciaaHashSum
namespace Go.Proofs.Ytehhgfkbcjbciaa
open Go.RowKit

theorem sha_len (M : List UInt8) : (sha M).length = 32 := by
  have hl := blocks_len h0s (padded M) h0s_len ((padded M).length / 64)
  unfold sha
  rw [← outK_all _ hl, outK_len _ hl 8 (by omega)]

theorem store_res (M : List UInt8) : (bcells z32).size = (bcells (sha M)).size := by rw [bcells_size, bcells_size, sha_len, z32_len]

set_option maxRecDepth 100000 in
set_option maxHeartbeats 1000000 in
theorem sumNil_any (w : World) : Calls Try.prog 47 #[.pointer none] w fun e w' => e = .returned (.agg (bcells (sha []))) ∧ Below w.heap.size w w' := by
  go_enter Try.func47, Try.ntmps47
  go_wp2_with (refine wpList_alloc_row rfl 64 rfl (bcells z32) zero32 ?_)
  have blk0 := Blk.new w 64 (bcells z32)
  have bel0 := (Below.refl w.heap.size w).alloc (Nat.le_refl _) (.cells (bcells z32) 64)
  generalize w.alloc (.cells (bcells z32) 64) = w1 at *
  refine (new_any w1).mono ?_
  rintro e w2 ⟨g, rfl, hg, hh, b2⟩
  go_wp2_with fail
  refine (sum_any _ g _ [] w2 hh (by simp)).mono ?_
  rintro e w3 ⟨rfl, b3⟩
  have hs1 := b2.size
  have hs0 := bel0.size
  have blk3 := (blk0.below b2 blk0.lt).below b3 (by have := blk0.lt; omega)
  have bel3 : Below w.heap.size w w3 := bel0.trans ((b2.mono hs0).trans (b3.mono (by omega)))
  clear hh b2 b3 blk0 bel0 hg hs1 hs0
  go_wp2_with (refine wpList_store_row rfl 64 _ _ rfl w.heap.size 64 (bcells z32) (bcells (sha [])) rfl rfl blk3 (store_res []) (bcells_one _) (by rw [bcells_size, sha_len, size32]) ?_; intro w9 blk9 g9 sz9)
  have hl := load_row w9 64 w.heap.size 64 (bcells (sha [])) blk9 32 5 Try.underlying64 (by rw [bcells_size, sha_len, size32])
  refine bodyPost_ret (v := .agg (bcells (sha []))) (by simp [results, Try.results47, Act.put, asAddr, hl]) rfl ⟨rfl, bel3.grown g9 bel3.size (fun k hk => by injection hk with e; omega)⟩

set_option maxRecDepth 100000 in
set_option maxHeartbeats 1000000 in
theorem shaSum_any (A : Option Addr) (n c D : Nat) (b : List UInt8) (w : World) (hn : n = b.length) (hr : RdB w D A b) (hD : D ≤ w.heap.size) (hL : (b.length : Int) ≤ 100000) :
    Calls Try.prog 43 #[.slice A n c] w fun e w' => e = .returned (.agg (bcells (sha b))) ∧ Below w.heap.size w w' := by
  subst hn
  have HR := Lib.hid hr
  clear hr
  go_enter Try.func43, Try.ntmps43
  go_wp2_with (refine wpList_alloc_row rfl 64 rfl (bcells z32) zero32 ?_)
  have blk0 := Blk.new w 64 (bcells z32)
  have bel0 := (Below.refl w.heap.size w).alloc (Nat.le_refl _) (.cells (bcells z32) 64)
  generalize w.alloc (.cells (bcells z32) 64) = w1 at *
  have hs0 := bel0.size
  have lt0 := blk0.lt
  refine (new_any w1).mono ?_
  rintro e w2 ⟨g, rfl, hg, hh, b2⟩
  have hs1 := b2.size
  have blk2 := blk0.below b2 lt0
  have bel2 : Below w.heap.size w w2 := bel0.trans (b2.mono hs0)
  have rd2 : RdB w2 D A b := HR.out.below (bel2.mono hD)
  have ltg := hh.blk.lt
  have HH := Lib.hid hh
  have BLK2 := Lib.hid blk2
  have BEL2 := Lib.hid bel2
  have RD2 := Lib.hid rd2
  clear hh b2 blk0 bel0 blk2 bel2 rd2
  go_wp2_with fail
  refine (write_any w1.heap.size g 0 _ [] b A b.length c w2 HH.out rfl D RD2.out (by omega) hs1 (by simp) hL).mono ?_
  rintro e w3 ⟨rfl, v', hh3, two3, la3⟩
  rw [List.nil_append] at hh3
  have bel3 : Below w.heap.size w w3 := two3.below BEL2.out (by omega) (fun k hk => by cases hk) (by omega)
  have blk3 : Blk w3 w.heap.size 64 (bcells z32) := (two3.block w.heap.size (by omega) (by omega) (by simp [Value.ownBlock])).trans BLK2.out
  have hs3 := bel3.size
  have HH3 := Lib.hid hh3
  have BLK3 := Lib.hid blk3
  have BEL3 := Lib.hid bel3
  have lt3 := blk3.lt
  clear hh3 blk3 bel3 two3 la3
  go_wp2_with fail
  refine (sum_any _ g _ b w3 HH3.out hL).mono ?_
  rintro e w4 ⟨rfl, b4⟩
  have blk4 := BLK3.out.below b4 lt3
  have bel4 : Below w.heap.size w w4 := BEL3.out.trans (b4.mono hs3)
  clear b4
  go_wp2_with (refine wpList_store_row rfl 64 _ _ rfl w.heap.size 64 (bcells z32) (bcells (sha b)) rfl rfl blk4 (store_res b) (bcells_one _) (by rw [bcells_size, sha_len, size32]) ?_; intro w9 blk9 g9 sz9)
  have hl := load_row w9 64 w.heap.size 64 (bcells (sha b)) blk9 32 5 Try.underlying64 (by rw [bcells_size, sha_len, size32])
  refine bodyPost_ret (v := .agg (bcells (sha b))) (by simp [results, Try.results43, Act.put, asAddr, hl]) rfl ⟨rfl, bel4.grown g9 bel4.size (fun k hk => by injection hk with e; omega)⟩

end Go.Proofs.Ytehhgfkbcjbciaa
