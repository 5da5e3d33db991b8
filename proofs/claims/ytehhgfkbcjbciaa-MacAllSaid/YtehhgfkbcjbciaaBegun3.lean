/- stillroomlaw3.begun returns true. -/
import Derived.Test.YtehhgfkbcjbciaaMac1
import Derived.Test.YtehhgfkbcjbciaaHexes
import Derived.Lib.SlBytesConst
namespace Go.Proofs.Ytehhgfkbcjbciaa
open Go.RowKit

def keyB : List UInt8 := [107, 101, 121]
def foxB : List UInt8 := [84, 104, 101, 32, 113, 117, 105, 99, 107, 32, 98, 114, 111, 119, 110, 32, 102, 111, 120, 32, 106, 117, 109, 112, 115, 32, 111, 118, 101, 114, 32, 116, 104, 101, 32, 108, 97, 122, 121, 32, 100, 111, 103]

theorem fox_mac : (macL keyB foxB).take 4 = [0xf7, 0xbc, 0x83, 0xf4] := by decide +kernel

theorem hex_fox (A : Option Addr) (c D : Nat) (w : World) (hr : RdB w D A [0xf7, 0xbc, 0x83, 0xf4]) (hD : D ≤ w.heap.size) :
    Calls Try.prog 59 #[.slice A 4 c] w fun e w' => e = .returned (.string ⟨#[102, 55, 98, 99, 56, 51, 102, 52]⟩) ∧ Below w.heap.size w w' :=
  hex_any A 4 c D [0xf7, 0xbc, 0x83, 0xf4] w rfl hr hD (by simp)

theorem fox_check (A A' A2 : Option Addr) (c c' c2 D : Nat) (w : World) (hr : RdB w D A keyB) (hr' : RdB w D A' foxB) (hr2 : RdB w D A2 (macL keyB foxB)) (hD : D ≤ w.heap.size) :
    Calls Try.prog 51 #[.slice A 3 c, .slice A' 43 c', .slice A2 32 c2] w fun e w' => e = .returned (.bool true) ∧ Below w.heap.size w w' :=
  check_any A A' A2 3 c 43 c' 32 c2 D keyB foxB (macL keyB foxB) w true (by simp) rfl rfl (macL_len _ _).symm hr hr' hr2 hD (by decide) (by decide)

theorem fox_sum (A A' : Option Addr) (c c' D : Nat) (w : World) (hr : RdB w D A keyB) (hr' : RdB w D A' foxB) (hD : D ≤ w.heap.size) :
    Calls Try.prog 49 #[.slice A 3 c, .slice A' 43 c'] w fun e w' => e = .returned (.agg (bcells (macL keyB foxB))) ∧ Below w.heap.size w w' :=
  macSum_any A A' 3 c 43 c' D keyB foxB w rfl rfl hr hr' hD (by decide) (by decide)

set_option maxRecDepth 100000 in
set_option maxHeartbeats 1000000 in
theorem begun3 (w : World) : Calls Try.prog 48 #[] w fun e w' => e = .returned (.bool true) ∧ Below w.heap.size w w' := by
  have kc := fun (w : World) (C : Array Value) (n c : Nat) => Lib.run_convert_bytes_const (P := Try.prog) w 24 5 C n c Try.underlying24 Try.underlying5
  have kc2 : ∀ (w : World) (C0 C : Array Value) (fz : Nat × Nat) (n c : Nat), (convert 24 24 (.slice (some ⟨w.heap.size + 1, 0, none⟩) n c)).run Try.prog ((w.alloc (.cells C0 5 fz)).alloc (.cells C 5)) = .ok (.slice (some ⟨w.heap.size + 1, 0, none⟩) n c) ((w.alloc (.cells C0 5 fz)).alloc (.cells C 5 (C.size, C.size + 1))) := fun w C0 C fz n c => by
    have h := kc (w.alloc (.cells C0 5 fz)) C n c
    have e : (w.alloc (.cells C0 5 fz)).heap.size = w.heap.size + 1 := by simp
    rwa [e] at h
  go_enter Try.func48, Try.ntmps48
  go_wp2_with fail
  have rdk : ∀ (w : World) (o : Obj), RdB ((w.alloc (.cells (keyB.map B).toArray 5 (3, 4))).alloc o) (w.heap.size + 2) (some ⟨w.heap.size, 0, none⟩) keyB := fun w o => Rd.mono ((Rd.new w (keyB.map B).toArray 5 (3, 4)).alloc (by simp) o) (by omega)
  have rdf : ∀ (w : World) (o : Obj), RdB ((w.alloc o).alloc (.cells (foxB.map B).toArray 5 (43, 44))) (w.heap.size + 2) (some ⟨w.heap.size + 1, 0, none⟩) foxB := fun w o => Rd.new2 w o (foxB.map B).toArray 5 (43, 44)
  have RDK := Lib.hid rdk
  have RDF := Lib.hid rdf
  clear rdk rdf
  refine (fox_sum _ _ _ _ (w.heap.size + 2) _ (RDK.out w _) (RDF.out w _) (by simp)).mono ?_
  rintro e w1 ⟨rfl, b1⟩
  have bel1 : Below w.heap.size w w1 := (((Below.refl w.heap.size w).alloc (Nat.le_refl _) _).alloc (by simp) _).trans (b1.mono (by simp; omega))
  have hs1 := bel1.size
  have hml := macL_len keyB foxB
  have hm4 := fox_mac
  have HCHK := Lib.hid fox_check
  generalize macL keyB foxB = M at *
  have HML := Lib.hid hml
  have HM4 := Lib.hid hm4
  have BEL1 := Lib.hid bel1
  have blk0 := Blk.new w1 64 (bcells z32)
  clear b1 bel1 hml hm4
  go_wp2_with (first
    | (refine wpList_alloc_row rfl 64 rfl (bcells z32) zero32 ?_)
    | (refine wpList_store_row rfl 64 _ _ rfl w1.heap.size 64 (bcells z32) (bcells M) rfl rfl blk0 (by rw [bcells_size, bcells_size, HML.out, z32_len]) (bcells_one _) (by rw [bcells_size, HML.out, size32]) ?_; intro w2 blk2 g2 sz2; replace sz2 := Lib.hid sz2; replace g2 := Lib.hid g2; replace blk2 := Lib.hid blk2))
  have bel2 : Below w.heap.size w w2 := (BEL1.out.alloc hs1 _).grown g2.out (by simp; omega) (fun k hk => by injection hk with e; omega)
  have hs2 := bel2.size
  have BEL2 := Lib.hid bel2
  clear bel2 blk0
  refine (hex_fox (some ⟨w1.heap.size, 0, none⟩) _ w2.heap.size w2 (by have h := RdB.take blk2.out.rdB 4; rwa [HM4.out] at h) (Nat.le_refl _)).mono ?_
  rintro e w3 ⟨rfl, b3⟩
  have bel3 := BEL2.out.trans (b3.mono hs2)
  have blk3 := blk2.out.below b3 blk2.out.lt
  have hs3 := bel3.size
  have BEL3 := Lib.hid bel3
  have BLK3 := Lib.hid blk3
  have lt3 := blk3.lt
  clear b3 bel3 blk3
  go_wp2_with fail
  refine (HCHK.out _ _ _ _ _ _ (w3.heap.size + 2) _ (RDK.out w3 _) (RDF.out w3 _) (((BLK3.out.alloc _).alloc _).rdB.mono (by simp)) (by simp)).mono ?_
  rintro e w4 ⟨rfl, b4⟩
  have bel4 : Below w.heap.size w w4 := ((BEL3.out.alloc hs3 _).alloc (by simp; omega) _).trans (b4.mono (by simp; omega))
  clear b4
  go_wp2_with fail
  go_ret
  exact ⟨rfl, bel4⟩

end Go.Proofs.Ytehhgfkbcjbciaa
