/- stillroomlaw2.begun returns true. -/
import Derived.Test.YtehhgfkbcjbciaaShaSum
import Derived.Test.YtehhgfkbcjbciaaHexes
namespace Go.Proofs.Ytehhgfkbcjbciaa
open Go.RowKit

theorem sha_nil : sha [] = [0xe3, 0xb0, 0xc4, 0x42, 0x98, 0xfc, 0x1c, 0x14, 0x9a, 0xfb, 0xf4, 0xc8, 0x99, 0x6f, 0xb9, 0x24, 0x27, 0xae, 0x41, 0xe4, 0x64, 0x9b, 0x93, 0x4c, 0xa4, 0x95, 0x99, 0x1b, 0x78, 0x52, 0xb8, 0x55] := by decide +kernel

theorem nil0 : (bcells (sha []))[0]? = some (.int .u8 227) := by rw [sha_nil]; rfl
theorem nil1 : (bcells (sha []))[1]? = some (.int .u8 176) := by rw [sha_nil]; rfl
theorem nil31 : (bcells (sha []))[31]? = some (.int .u8 85) := by rw [sha_nil]; rfl

theorem hex_one (A : Option Addr) (c D : Nat) (w : World) (hr : RdB w D A [10, 255]) (hD : D ≤ w.heap.size) :
    Calls Try.prog 59 #[.slice A 2 c] w fun e w' => e = .returned (.string ⟨#[48, 97, 102, 102]⟩) ∧ Below w.heap.size w w' :=
  hex_any A 2 c D [10, 255] w rfl hr hD (by simp)

set_option maxRecDepth 100000 in
set_option maxHeartbeats 1000000 in
theorem begun2 (w : World) : Calls Try.prog 42 #[] w fun e w' => e = .returned (.bool true) ∧ Below w.heap.size w w' := by
  go_enter Try.func42, Try.ntmps42
  go_wp2_with fail
  refine (shaSum_any none 0 0 0 [] w rfl (Rd.nil _ _ _) (by omega) (by simp)).mono ?_
  rintro e w1 ⟨rfl, b1⟩
  have blk0 := Blk.new w1 64 (bcells z32)
  have hs1 := b1.size
  go_wp2_with (first
    | (refine wpList_alloc_row rfl 64 rfl (bcells z32) zero32 ?_)
    | (refine wpList_store_row rfl 64 _ _ rfl w1.heap.size 64 (bcells z32) (bcells (sha [])) rfl rfl blk0 (store_res []) (bcells_one _) (by rw [bcells_size, sha_len, size32]) ?_; intro w2 blk2 g2 sz2))
  have b2 : Below w.heap.size w w2 := (b1.alloc hs1 _).grown g2 (by simp; omega) (fun k hk => by injection hk with e; omega)
  have lt2 := blk2.lt
  clear blk0 b1 g2 sz2
  refine (unhex_one w2).mono ?_
  rintro e w3 ⟨A, c, rfl, rd, b3⟩
  have blk3 := blk2.below b3 lt2
  have c0 := (blk3.cell 0).trans nil0
  have c1 := (blk3.cell 1).trans nil1
  have c31 := (blk3.cell 31).trans nil31
  have b4 := b2.trans (b3.mono b2.size)
  have hs4 := b4.size
  have RD := Lib.hid rd
  obtain ⟨bb, off, rfl, hbb, hcell⟩ := rd.at_ (k := 1) (by decide)
  have hc255 : w3.cell? ⟨bb, off + 1, none⟩ = some (.int .u8 255) := hcell
  have BLK := Lib.hid blk3
  have B4 := Lib.hid b4
  have HC := Lib.hid hc255
  clear blk2 b2 b3 rd blk3 b4 hcell hc255
  go_wp2_with fail
  refine (hex_one _ _ (w3.heap.size + 1) _ (Rd.new w3 _ _ _) (by simp)).mono ?_
  rintro e w4 ⟨rfl, b5⟩
  have hw4 : w4.cell? ⟨bb, off + 1, none⟩ = some (.int .u8 255) := by
    rw [b5.cell (p := ⟨bb, off + 1, none⟩) (by show bb < _; simp; omega), ((Below.refl w3.heap.size w3).alloc (Nat.le_refl _) _).cell (p := ⟨bb, off + 1, none⟩) hbb]
    exact HC.out
  have b6 : Below w.heap.size w w4 := (B4.out.alloc hs4 _).trans (b5.mono (by simp; omega))
  clear b5
  go_wp2_with fail
  go_ret
  exact ⟨rfl, b6⟩

end Go.Proofs.Ytehhgfkbcjbciaa
