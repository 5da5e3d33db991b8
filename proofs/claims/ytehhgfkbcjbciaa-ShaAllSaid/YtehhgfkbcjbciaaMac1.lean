/- mac: turned, Sum, Check; slices.Equal of bytes. -/
import Derived.Test.YtehhgfkbcjbciaaShaSum
import Derived.Laws.CopyOwn
import Derived.Test.YtehhgfkbcjbciaaPlan
import Derived.Deep.Cut
namespace Go.Proofs.Ytehhgfkbcjbciaa
open Go.RowKit

/-- a key of at most 64 bytes -/
def keyOf (key : List UInt8) : List UInt8 := if 64 < key.length then sha key else key

/-- a key's block -/
def keyBlock (key : List UInt8) : List UInt8 := keyOf key ++ List.replicate (64 - (keyOf key).length) 0

/-- a key's block turned -/
def turnL (key : List UInt8) (x : UInt8) : List UInt8 := (keyBlock key).map (· ^^^ x)

/-- the tag -/
def macL (key b : List UInt8) : List UInt8 := sha (turnL key 0x5c ++ sha (turnL key 0x36 ++ b))

theorem keyOf_len (key : List UInt8) : (keyOf key).length ≤ 64 := by
  unfold keyOf
  split
  · rw [sha_len]; omega
  · omega

theorem keyBlock_len (key : List UInt8) : (keyBlock key).length = 64 := by
  have := keyOf_len key
  unfold keyBlock
  rw [List.length_append, List.length_replicate]
  omega

theorem turnL_len (key : List UInt8) (x : UInt8) : (turnL key x).length = 64 := by
  unfold turnL
  rw [List.length_map, keyBlock_len]

theorem macL_len (key b : List UInt8) : (macL key b).length = 32 := sha_len _

theorem u8_xor (a b : UInt8) : bits .xor .u8 (a.toNat : Int) (b.toNat : Int) = ((a ^^^ b).toNat : Int) := by
  show IntKind.u8.wrap ((BitVec.ofInt 8 (a.toNat : Int) ^^^ BitVec.ofInt 8 (b.toNat : Int)).toNat : Int) = _
  have ea : BitVec.ofInt 8 (a.toNat : Int) = a.toBitVec := by
    rw [BitVec.ofInt_natCast]; apply BitVec.eq_of_toNat_eq; simp
  have eb : BitVec.ofInt 8 (b.toNat : Int) = b.toBitVec := by
    rw [BitVec.ofInt_natCast]; apply BitVec.eq_of_toNat_eq; simp
  rw [ea, eb, IntKind.wrap_u8]
  have h := (a.toBitVec ^^^ b.toBitVec).isLt
  have e : (a ^^^ b).toNat = (a.toBitVec ^^^ b.toBitVec).toNat := rfl
  rw [e]
  omega

theorem OwnB.blk {w : World} {base g n : Nat} {l : List UInt8} (h : OwnB w base (.slice (some ⟨g, 0, none⟩) n n) l) : Blk w g 5 (bcells l) := by
  rcases h.2 with ⟨h, _⟩ | ⟨g', cap', cur', hv, _, hg', hnc, hcm, hcs, ht⟩
  · cases h
  · injection hv with h1 h2 h3
    injection h1 with h1
    injection h1 with h1
    subst h1 h3
    rw [List.take_of_length_le (by rw [Array.length_toList]; omega)] at ht
    unfold Blk bcells
    rw [hg', ← ht]

theorem OwnB.of_blk {w : World} {base g : Nat} {l : List UInt8} (h : Blk w g 5 (bcells l)) (hb : base ≤ g) (hl : l.length ≤ maxLen) : OwnB w base (.slice (some ⟨g, 0, none⟩) l.length l.length) l :=
  ⟨by simp, .inr ⟨g, l.length, bcells l, rfl, hb, h, Nat.le_refl _, hl, by rw [bcells_size, Nat.mul_one], by unfold bcells; rw [Nat.mul_one]; exact List.take_of_length_le (by simp)⟩⟩

/-- an array of bytes read as a slice -/
theorem Blk.rdB {w : World} {g : Nat} {t : TypeId} {l : List UInt8} (h : Blk w g t (bcells l)) : RdB w w.heap.size (some ⟨g, 0, none⟩) l := fun _ =>
  ⟨g, 0, rfl, h.lt, fun j hj => by rw [Nat.zero_add, h.cell, bcells, List.getElem?_toArray]⟩

/-- the first k bytes turned -/
def turnK (L : List UInt8) (x : UInt8) (k : Nat) : List UInt8 := (L.take k).map (· ^^^ x) ++ L.drop k

theorem turnK_len (L : List UInt8) (x : UInt8) (k : Nat) : (turnK L x k).length = L.length := by unfold turnK; simp; omega

theorem turnK_at (L : List UInt8) (x : UInt8) (k : Nat) (h : k < L.length) : (turnK L x k)[k]? = some L[k] := by
  unfold turnK
  rw [List.getElem?_append_right (by simp; omega)]
  simp only [List.length_map, List.length_take]
  rw [show k - min k L.length = 0 from by omega, List.getElem?_drop, Nat.add_zero, List.getElem?_eq_getElem h]

theorem turnK_set (L : List UInt8) (x : UInt8) (k : Nat) (h : k < L.length) : (turnK L x k).set k (L[k] ^^^ x) = turnK L x (k + 1) := by
  unfold turnK
  rw [List.take_succ_eq_append_getElem h, List.map_append, List.set_append_right _ _ (by simp; omega)]
  simp only [List.length_map, List.length_take]
  rw [show k - min k L.length = 0 from by omega, List.drop_eq_getElem_cons h, List.set_cons_zero, List.append_assoc]
  rfl

theorem bcell_at {w : World} {g : Nat} {t : TypeId} {l : List UInt8} (h : Blk w g t (bcells l)) (k : Nat) (c : UInt8) (hc : l[k]? = some c) : w.cell? ⟨g, k, none⟩ = some (.int .u8 (c.toNat : Int)) := by
  rw [h.cell, bcells, List.getElem?_toArray, List.getElem?_map, hc]
  rfl

theorem splice_key (K : List UInt8) : splice ((List.replicate 64 (0 : UInt8)).map B) 0 (K.map B) = (K ++ List.replicate (64 - K.length) 0).map B := by
  unfold splice
  simp only [List.take_zero, List.nil_append, Nat.zero_add, List.length_map, List.map_append, List.map_replicate, List.drop_replicate]

theorem size_u8 : (Try.prog.info? 5).map (·.size) = some 1 := by kernel_rfl

/-- what turned gives -/
def Turned (w : World) (key : List UInt8) (x : UInt8) (e : Ending) (w' : World) : Prop := ∃ v, e = .returned v ∧ OwnB w' w.heap.size v (turnL key x) ∧ Below w.heap.size w w'

set_option maxRecDepth 100000 in
set_option maxHeartbeats 1000000 in
theorem turned_any (A : Option Addr) (n c D : Nat) (key : List UInt8) (x : UInt8) (w : World) (hn : n = key.length) (hr : RdB w D A key) (hD : D ≤ w.heap.size) (hL : (key.length : Int) ≤ 100000) :
    Calls Try.prog 66 #[.slice A n c, .int .u8 (x.toNat : Int)] w (Turned w key x) := by
  have Hn := Lib.hid hn
  have hnb : (n : Int) ≤ 100000 := by omega
  have HR := Lib.hid hr
  clear hr hn
  go_enter Try.func66, Try.ntmps66
  by_cases h64 : 64 < n
  · have hko : keyOf key = sha key := by unfold keyOf; rw [if_pos (by rw [← Hn.out]; exact h64)]
    have HKO := Lib.hid hko
    clear hko
    go_wp2_with fail
    refine (shaSum_any A n c D key w Hn.out HR.out hD hL).mono ?_
    rintro e w1 ⟨rfl, b1⟩
    have hs1 := b1.size
    have blk0 := Blk.new w1 64 (bcells z32)
    go_upto_region 4 with (first
      | (refine wpList_alloc_row rfl 64 rfl (bcells z32) zero32 ?_)
      | (refine wpList_store_row rfl 64 _ _ rfl w1.heap.size 64 (bcells z32) (bcells (sha key)) rfl rfl blk0 (store_res key) (bcells_one _) (by rw [bcells_size, sha_len, size32]) ?_; intro w2 blk2 g2 sz2; replace sz2 := Lib.hid sz2))
    have bel2 : Below w.heap.size w w2 := (b1.alloc hs1 _).grown g2 (by simp; omega) (fun k hk => by injection hk with e; omega)
    have rd2 : RdB w2 w2.heap.size (some ⟨w1.heap.size, 0, none⟩) (keyOf key) := by rw [HKO.out]; exact blk2.rdB
    have hk32 : (keyOf key).length = 32 := by rw [HKO.out, sha_len]
    have HK32 := Lib.hid hk32
    clear blk0 b1 blk2 g2 hk32
    have hK64 := keyOf_len key
    have hkb : keyOf key ++ List.replicate (64 - (keyOf key).length) 0 = keyBlock key := rfl
    have hkl := keyBlock_len key
    have hszB := bel2.size
    have BEL3 := Lib.hid bel2
    have RD3 := Lib.hid rd2
    have HK := Lib.hid hkb
    have HKL := Lib.hid hkl
    clear bel2 rd2 hkb hkl
    go_wp2_with (first
      | (at_make; refine wpList_make_u8 rfl _ _ rfl w.heap.size 64 64 64 rfl rfl rfl rfl (by omega) hszB ?_; intro w4 own4 g4; have blk4 := own4.blk; have bel4 : Below w.heap.size w w4 := BEL3.out.grown g4 hszB (fun k hk => by cases hk); have rd4 : RdB w4 w2.heap.size (some ⟨w1.heap.size, 0, none⟩) (keyOf key) := RD3.out.grown g4 (Nat.le_refl _) (fun k hk => by cases hk); have s4 := blk4.lt; replace own4 := Lib.hid own4; replace g4 := Lib.hid g4; replace blk4 := Lib.hid blk4; replace bel4 := Lib.hid bel4; replace rd4 := Lib.hid rd4)
      | (refine wpList_copy_splice rfl _ _ 24 24 rfl 5 Try.underlying24 size_u8 (some ⟨w2.heap.size, 0, none⟩) (some ⟨w1.heap.size, 0, none⟩) 64 64 32 32 rfl rfl w2.heap.size 0 ((List.replicate 64 (0 : UInt8)).map B) 5 blk4.out ((keyOf key).map B) (by have h := hK64; rw [HK32.out] at h; rw [List.length_map, HK32.out]; exact (Nat.min_eq_left h).symm) (fun hpos => ⟨rfl, by rw [List.length_map] at hpos; obtain ⟨bb, off, e, _, hc⟩ := rd4.out (by rw [List.length_map]; exact hpos); exact ⟨⟨bb, off, none⟩, e, fun j v hv => by rw [add_flat, hc j (by rw [List.length_map]; have := (List.getElem?_eq_some_iff.1 hv).1; simpa using this), hv]⟩⟩) (by simp; omega) (one_B _) w.heap.size w bel4.out hszB ?_; intro w5 blk5 bel5))
    have blk6 : Blk w5 w2.heap.size 5 (bcells (turnK (keyBlock key) x 0)) := by
      have h := blk5.out
      rw [splice_key, HK.out] at h
      exact h
    have hlt6 : w.heap.size ≤ w2.heap.size := hszB
    obtain ⟨g6, hg6⟩ : ∃ g6, g6 = w2.heap.size := ⟨_, rfl⟩
    rw [← hg6] at blk6 ⊢
    replace hlt6 : w.heap.size ≤ g6 := by omega
    replace hg6 := Lib.hid hg6
    clear blk5 blk4 bel4 rd4 own4 g4 BEL3 RD3 s4 hszB
    go_loopw [20] (fun i wr => ∃ k : Nat, k ≤ 64 ∧ i = .int .i64 k ∧ Blk wr g6 5 (bcells (turnK (keyBlock key) x k)) ∧ Below w.heap.size w wr) (fun i _ => 64 - (intOf i).toNat)
    case atStart => exact ⟨0, by omega, rfl, blk6, bel5⟩
    case round =>
      clear blk6 bel5
      obtain ⟨k, hk, rfl, blk, bel⟩ := hrel
      by_cases hlt : k < 64
      · have hk64 : k < (keyBlock key).length := by rw [HKL.out]; exact hlt
        have ck := bcell_at blk k _ (turnK_at (keyBlock key) x k hk64)
        have fk := blk.frozen k
        have hset := turnK_set (keyBlock key) x k hk64
        have hxor := u8_xor (keyBlock key)[k] x
        generalize (keyBlock key)[k] = y at ck hset hxor
        generalize y ^^^ x = z at hset hxor
        have HSET := Lib.hid hset
        have BLK := Lib.hid blk
        have BEL := Lib.hid bel
        clear hset blk bel hk64
        go_wp2_with fail
        refine ⟨⟨k + 1, by omega, by simp, ?_, BEL.out.setCell (p := ⟨g6, k, none⟩) (by show w.heap.size ≤ g6; omega) _⟩, by simp [intOf]; omega⟩
        rw [← HSET.out, ← bcells_set]
        exact BLK.out.store k _
      · obtain rfl : k = 64 := by omega
        have hfull : turnK (keyBlock key) x 64 = turnL key x := by
          unfold turnK turnL
          rw [List.take_of_length_le (by rw [HKL.out]; omega), List.drop_of_length_le (by rw [HKL.out]; omega), List.append_nil]
        rw [hfull] at blk
        have HF := Lib.hid hfull
        have own : OwnB wr w.heap.size (.slice (some ⟨g6, 0, none⟩) 64 64) (turnL key x) := by
          have h := OwnB.of_blk blk hlt6 (by rw [turnL_len]; unfold maxLen; omega)
          rwa [turnL_len] at h
        clear hlt hfull
        go_wp2_with fail
        go_ret
        exact ⟨_, rfl, own, bel⟩
  · have hko : keyOf key = key := by unfold keyOf; rw [if_neg (by rw [← Hn.out]; exact h64)]
    have hkn : (keyOf key).length = n := by rw [hko]; exact Hn.out.symm
    have HKN := Lib.hid hkn
    have rd2 : RdB w w.heap.size A (keyOf key) := by rw [hko]; exact Rd.mono HR.out hD
    have bel2 := Below.refl w.heap.size w
    clear hko hkn
    have hK64 := keyOf_len key
    have hkb : keyOf key ++ List.replicate (64 - (keyOf key).length) 0 = keyBlock key := rfl
    have hkl := keyBlock_len key
    have hszB := bel2.size
    have BEL3 := Lib.hid bel2
    have RD3 := Lib.hid rd2
    have HK := Lib.hid hkb
    have HKL := Lib.hid hkl
    clear bel2 rd2 hkb hkl
    go_wp2_with (first
      | (at_make; refine wpList_make_u8 rfl _ _ rfl w.heap.size 64 64 64 rfl rfl rfl rfl (by omega) hszB ?_; intro w4 own4 g4; have blk4 := own4.blk; have bel4 : Below w.heap.size w w4 := BEL3.out.grown g4 hszB (fun k hk => by cases hk); have rd4 : RdB w4 w.heap.size A (keyOf key) := RD3.out.grown g4 (Nat.le_refl _) (fun k hk => by cases hk); have s4 := blk4.lt; replace own4 := Lib.hid own4; replace g4 := Lib.hid g4; replace blk4 := Lib.hid blk4; replace bel4 := Lib.hid bel4; replace rd4 := Lib.hid rd4)
      | (refine wpList_copy_splice rfl _ _ 24 24 rfl 5 Try.underlying24 size_u8 (some ⟨w.heap.size, 0, none⟩) A 64 64 n c rfl rfl w.heap.size 0 ((List.replicate 64 (0 : UInt8)).map B) 5 blk4.out ((keyOf key).map B) (by have h := hK64; rw [HKN.out] at h; rw [List.length_map, HKN.out]; exact (Nat.min_eq_left h).symm) (fun hpos => ⟨rfl, by rw [List.length_map] at hpos; obtain ⟨bb, off, e, _, hc⟩ := rd4.out (by rw [List.length_map]; exact hpos); exact ⟨⟨bb, off, none⟩, e, fun j v hv => by rw [add_flat, hc j (by rw [List.length_map]; have := (List.getElem?_eq_some_iff.1 hv).1; simpa using this), hv]⟩⟩) (by simp; omega) (one_B _) w.heap.size w bel4.out hszB ?_; intro w5 blk5 bel5))
    have blk6 : Blk w5 w.heap.size 5 (bcells (turnK (keyBlock key) x 0)) := by
      have h := blk5.out
      rw [splice_key, HK.out] at h
      exact h
    have hlt6 : w.heap.size ≤ w.heap.size := hszB
    obtain ⟨g6, hg6⟩ : ∃ g6, g6 = w.heap.size := ⟨_, rfl⟩
    rw [← hg6] at blk6 ⊢
    replace hlt6 : w.heap.size ≤ g6 := by omega
    replace hg6 := Lib.hid hg6
    clear blk5 blk4 bel4 rd4 own4 g4 BEL3 RD3 s4 hszB
    go_loopw [20] (fun i wr => ∃ k : Nat, k ≤ 64 ∧ i = .int .i64 k ∧ Blk wr g6 5 (bcells (turnK (keyBlock key) x k)) ∧ Below w.heap.size w wr) (fun i _ => 64 - (intOf i).toNat)
    case atStart => exact ⟨0, by omega, rfl, blk6, bel5⟩
    case round =>
      clear blk6 bel5
      obtain ⟨k, hk, rfl, blk, bel⟩ := hrel
      by_cases hlt : k < 64
      · have hk64 : k < (keyBlock key).length := by rw [HKL.out]; exact hlt
        have ck := bcell_at blk k _ (turnK_at (keyBlock key) x k hk64)
        have fk := blk.frozen k
        have hset := turnK_set (keyBlock key) x k hk64
        have hxor := u8_xor (keyBlock key)[k] x
        generalize (keyBlock key)[k] = y at ck hset hxor
        generalize y ^^^ x = z at hset hxor
        have HSET := Lib.hid hset
        have BLK := Lib.hid blk
        have BEL := Lib.hid bel
        clear hset blk bel hk64
        go_wp2_with fail
        refine ⟨⟨k + 1, by omega, by simp, ?_, BEL.out.setCell (p := ⟨g6, k, none⟩) (by show w.heap.size ≤ g6; omega) _⟩, by simp [intOf]; omega⟩
        rw [← HSET.out, ← bcells_set]
        exact BLK.out.store k _
      · obtain rfl : k = 64 := by omega
        have hfull : turnK (keyBlock key) x 64 = turnL key x := by
          unfold turnK turnL
          rw [List.take_of_length_le (by rw [HKL.out]; omega), List.drop_of_length_le (by rw [HKL.out]; omega), List.append_nil]
        rw [hfull] at blk
        have HF := Lib.hid hfull
        have own : OwnB wr w.heap.size (.slice (some ⟨g6, 0, none⟩) 64 64) (turnL key x) := by
          have h := OwnB.of_blk blk hlt6 (by rw [turnL_len]; unfold maxLen; omega)
          rwa [turnL_len] at h
        clear hlt hfull
        go_wp2_with fail
        go_ret
        exact ⟨_, rfl, own, bel⟩

theorem turned54 (A : Option Addr) (n c D : Nat) (key : List UInt8) (w : World) (hn : n = key.length) (hr : RdB w D A key) (hD : D ≤ w.heap.size) (hL : (key.length : Int) ≤ 100000) :
    Calls Try.prog 66 #[.slice A n c, .int .u8 54] w (Turned w key 0x36) := turned_any A n c D key 0x36 w hn hr hD hL

theorem turned92 (A : Option Addr) (n c D : Nat) (key : List UInt8) (w : World) (hn : n = key.length) (hr : RdB w D A key) (hD : D ≤ w.heap.size) (hL : (key.length : Int) ≤ 100000) :
    Calls Try.prog 66 #[.slice A n c, .int .u8 92] w (Turned w key 0x5c) := turned_any A n c D key 0x5c w hn hr hD hL

theorem OwnB.lt' {w : World} {base : Nat} {v : Value} {l : List UInt8} (h : OwnB w base v l) : ∀ g, v.ownBlock = some g → base ≤ g ∧ g < w.heap.size := World.ownsRow.lt h

set_option maxRecDepth 100000 in
set_option maxHeartbeats 1000000 in
theorem macSum_any (A A' : Option Addr) (n c n' c' D : Nat) (key b : List UInt8) (w : World) (hn : n = key.length) (hn' : n' = b.length) (hr : RdB w D A key) (hr' : RdB w D A' b) (hD : D ≤ w.heap.size) (hL : (key.length : Int) ≤ 10000) (hL' : (b.length : Int) ≤ 10000) :
    Calls Try.prog 49 #[.slice A n c, .slice A' n' c'] w fun e w' => e = .returned (.agg (bcells (macL key b))) ∧ Below w.heap.size w w' := by
  have Hn := Lib.hid hn
  have Hn' := Lib.hid hn'
  have HR := Lib.hid hr
  have HR' := Lib.hid hr'
  have hl1 : (turnL key 0x36).length + b.length ≤ 140737488355328 := by rw [turnL_len]; omega
  have HL1 := Lib.hid hl1
  clear hr hr' hn hn' hl1
  go_enter Try.func49, Try.ntmps49
  go_wp2_with (refine wpList_alloc_row rfl 64 rfl (bcells z32) zero32 ?_)
  have blk0 := Blk.new w 64 (bcells z32)
  have bel0 := (Below.refl w.heap.size w).alloc (Nat.le_refl _) (.cells (bcells z32) 64)
  generalize w.alloc (.cells (bcells z32) 64) = w1 at *
  have hs0 := bel0.size
  have lt0 := blk0.lt
  refine (turned54 A n c D key w1 Hn.out (HR.out.below (bel0.mono hD)) (by omega) (by omega)).mono ?_
  rintro e w2 ⟨v2, rfl, own2, b2⟩
  have blk2 := blk0.below b2 lt0
  have bel2 := bel0.trans (b2.mono hs0)
  have hs2 := bel2.size
  have OWN2 := Lib.hid (own2.base (base' := w.heap.size + 1) (by omega))
  have BLK2 := Lib.hid blk2
  have BEL2 := Lib.hid bel2
  have RD2 := Lib.hid (HR'.out.below (bel2.mono hD))
  have hs2' : w.heap.size + 1 ≤ w2.heap.size := blk2.lt
  clear own2 b2 blk0 bel0 blk2 bel2
  go_wp2_with (at_builtin; refine wpList_append_u8 rfl (.tmp 7) (.tmp 8) rfl (w.heap.size + 1) v2 (turnL key 0x36) rfl OWN2.out D A' n' c' b rfl Hn'.out RD2.out HL1.out hs2' ?_; intro v3 w3 own3 g3; obtain ⟨A3, n3, c3, rfl, hn3, _, _, rd3⟩ := own3.slice'; replace own3 := Lib.hid own3; replace g3 := Lib.hid g3; replace rd3 := Lib.hid rd3)
  have blk3 := BLK2.out.grown g3.out (fun e => by have := (OWN2.out.lt' _ e).1; omega)
  have bel3 := BEL2.out.grown g3.out hs2 (fun k hk => by have := (OWN2.out.lt' _ hk).1; omega)
  have hs3 := bel3.size
  have hl3 : ((turnL key 0x36 ++ b).length : Int) ≤ 100000 := by rw [List.length_append, turnL_len]; omega
  refine (shaSum_any A3 n3 c3 w3.heap.size (turnL key 0x36 ++ b) w3 hn3.out rd3.out (Nat.le_refl _) hl3).mono ?_
  rintro e w4 ⟨rfl, b4⟩
  have blk4 := blk3.below b4 blk3.lt
  have bel4 := bel3.trans (b4.mono hs3)
  have hs4 := bel4.size
  have lt4 := blk4.lt
  have BLK4 := Lib.hid blk4
  have BEL4 := Lib.hid bel4
  have blkn := Blk.new w4 64 (bcells z32)
  clear own3 g3 rd3 blk3 bel3 b4 blk4 bel4 BLK2 BEL2 RD2 OWN2 hl3
  generalize hM : sha (turnL key 0x36 ++ b) = M
  have HM := Lib.hid hM
  have hml : M.length = 32 := by rw [← hM]; exact sha_len _
  have HML := Lib.hid hml
  clear hM hml
  go_wp2_with (first
    | (refine wpList_alloc_row rfl 64 rfl (bcells z32) zero32 ?_)
    | (refine wpList_store_row rfl 64 _ _ rfl w4.heap.size 64 (bcells z32) (bcells M) rfl rfl blkn (by rw [bcells_size, bcells_size, HML.out, z32_len]) (bcells_one _) (by rw [bcells_size, HML.out, size32]) ?_; intro w5 blk5 g5 sz5; replace sz5 := Lib.hid sz5; replace g5 := Lib.hid g5; replace blk5 := Lib.hid blk5))
  have blk50 : Blk w5 w.heap.size 64 (bcells z32) := (BLK4.out.alloc _).grown g5.out (by simp; omega)
  have bel5 : Below w.heap.size w w5 := (BEL4.out.alloc hs4 _).grown g5.out (by simp; omega) (fun k hk => by injection hk with e; omega)
  have BLK50 := Lib.hid blk50
  have BEL5 := Lib.hid bel5
  have hs5 := bel5.size
  clear blk50 bel5 blkn BLK4 BEL4 g5 sz5
  refine any_begin (fun _ => True) (by kernel_rfl) trivial (fun hS0 => ?_)
  refine any_take 0 (v := ?_) rfl rfl (by kernel_rfl) (by kernel_rfl) (by kernel_rfl) (fun _ _ _ h => h) hS0 ?_ ?_
  rotate_left
  · (intro w' hSw; (try dsimp only at hSw); go_simp; first | done | with_reducible rfl)
  try simp only [Act.put, List.setIfInBounds_toArray, List.set_cons_zero, List.set_cons_succ]
  refine any_take 2 (v := ?_) rfl rfl (by kernel_rfl) (by kernel_rfl) (by kernel_rfl) (fun _ _ _ h => h) hS0 ?_ ?_
  rotate_left
  · (intro w' hSw; (try dsimp only at hSw); go_simp; first | done | with_reducible rfl)
  try simp only [Act.put, List.setIfInBounds_toArray, List.set_cons_zero, List.set_cons_succ]
  refine any_one 1 (by kernel_rfl) rfl rfl (fun K1 hK1 => ?_)
  go_simp
  refine (turned92 A n c D key _ Hn.out (HR.out.below (BEL5.out.drew.mono hD)) (by simpa using (by omega : D ≤ w5.heap.size)) (by omega)).mono ?_
  rintro e w6 ⟨v6, rfl, own6, b6⟩
  have b6' : Below w5.heap.size w5 w6 := (Below.refl w5.heap.size w5).drew.trans b6
  have bel6 := BEL5.out.trans (b6'.mono hs5)
  have blk6 := BLK50.out.below b6' BLK50.out.lt
  have rd6 := (blk5.out.below b6' blk5.out.lt).rdB
  have own6' : OwnB w6 (w.heap.size + 1) v6 (turnL key 0x5c) := own6.base (by have := BLK50.out.lt; simp; omega)
  have hs6 := bel6.size
  have hs6' : w.heap.size + 1 ≤ w6.heap.size := blk6.lt
  refine hK1 _ _ trivial (fun hS1 => ?_)
  clear hK1 K1
  try simp only [Act.put, List.setIfInBounds_toArray, List.set_cons_zero, List.set_cons_succ]
  refine any_one 3 (by kernel_rfl) rfl rfl (fun K2 hK2 => ?_)
  refine wp_append_u8 _ _ rfl (w.heap.size + 1) v6 (turnL key 0x5c) rfl own6' w6.heap.size (some ⟨w4.heap.size, 0, none⟩) 32 32 M rfl HML.out.symm rd6 (by rw [turnL_len, HML.out]; omega) hs6' (fun v7 w7 own7 g7 => ?_)
  have blk7 := blk6.grown g7 (fun e => by have := (own6'.lt' _ e).1; omega)
  have bel7 := bel6.grown g7 hs6 (fun k hk => by have := (own6'.lt' _ hk).1; omega)
  have hs7 := bel7.size
  refine hK2 _ _ trivial (fun hS2 => ?_)
  clear hK2 K2
  try simp only [Act.put, List.setIfInBounds_toArray, List.set_cons_zero, List.set_cons_succ]
  refine any_one 4 (by kernel_rfl) rfl rfl (fun K3 hK3 => ?_)
  obtain ⟨A7, n7, c7, rfl, hn7, _, _, rd7⟩ := own7.slice'
  go_simp
  refine (shaSum_any A7 n7 c7 w7.heap.size (turnL key 0x5c ++ M) w7 hn7.out rd7 (Nat.le_refl _) (by rw [List.length_append, turnL_len, HML.out]; omega)).mono ?_
  rintro e w8 ⟨rfl, b8⟩
  have blk8 := blk7.below b8 blk7.lt
  have bel8 := bel7.trans (b8.mono hs7)
  have hmac : sha (turnL key 0x5c ++ M) = macL key b := by unfold macL; rw [HM.out]
  rw [hmac]
  have hml := macL_len key b
  refine hK3 _ _ trivial (fun hS3 => ?_)
  clear hK3 K3
  try simp only [Act.put, List.setIfInBounds_toArray, List.set_cons_zero, List.set_cons_succ]
  refine any_one 5 (by kernel_rfl) rfl rfl (fun K4 hK4 => ?_)
  refine wp_store_row 64 _ _ rfl w.heap.size 64 (bcells z32) (bcells (macL key b)) rfl rfl blk8 (by rw [bcells_size, bcells_size, hml, z32_len]) (bcells_one _) (by rw [bcells_size, hml, size32]) (fun w9 blk9 g9 sz9 => ?_)
  have bel9 := bel8.grown g9 bel8.size (fun k hk => by injection hk with e; omega)
  refine hK4 _ _ trivial (fun hS4 => ?_)
  clear hK4 K4
  refine any_done (by kernel_rfl) (NoPanic.normal ?_)
  have hl := load_row w9 64 w.heap.size 64 (bcells (macL key b)) blk9 32 5 Try.underlying64 (by rw [bcells_size, macL_len, size32])
  go_wp2_with fail
  refine bodyPost_ret (v := .agg (bcells (macL key b))) (by simp [results, Try.results49, asAddr, hl]) rfl ⟨rfl, bel9⟩

/-- two slices of bytes compared -/
theorem same_at (a b : List UInt8) (k : Nat) (hk : k < a.length) (hl : a.length = b.length) (h : a.take k = b.take k) (hx : a[k] = b[k]'(by omega)) : a.take (k + 1) = b.take (k + 1) := by
  rw [List.take_succ_eq_append_getElem hk, List.take_succ_eq_append_getElem (by omega : k < b.length), h, hx]

set_option maxRecDepth 100000 in
set_option maxHeartbeats 1000000 in
theorem equal_no (A A' : Option Addr) (n c n' c' : Nat) (w : World) (hne : n ≠ n') :
    Calls Try.prog 68 #[.slice A n c, .slice A' n' c'] w fun e w' => e = .returned (.bool false) ∧ ∃ m, w' = w.drewN m := by
  have h1 : ((n : Int) == (n' : Int)) = false := by simp; omega
  have h2 : ((n : Int) != (n' : Int)) = true := by simp; omega
  have h3 : ¬ ((n : Int) = (n' : Int)) := by omega
  clear hne
  go_enter Try.func68, Try.ntmps68
  go_wp2_with fail
  go_ret
  exact ⟨rfl, 0, rfl⟩

set_option maxRecDepth 100000 in
set_option maxHeartbeats 1000000 in
theorem equal_any (A A' : Option Addr) (n c c' D : Nat) (a b : List UInt8) (w : World) (hn : n = a.length) (hb : n = b.length) (hr : RdB w D A a) (hr' : RdB w D A' b) (hL : (n : Int) ≤ 100000) :
    Calls Try.prog 68 #[.slice A n c, .slice A' n c'] w fun e w' => e = .returned (.bool (a == b)) ∧ ∃ m, w' = w.drewN m := by
  have Hn := Lib.hid hn
  have Hb := Lib.hid hb
  clear hn hb
  go_enter Try.func68, Try.ntmps68
  go_wp2_with fail
  go_loopw [13] (fun i wr => ∃ k m : Nat, k ≤ n ∧ i = .int .i64 k ∧ Hid (a.take k = b.take k) ∧ wr = w.drewN m) (fun i _ => n - (intOf i).toNat)
  case atStart => exact ⟨0, 0, by omega, rfl, Lib.hid (by simp), rfl⟩
  case round =>
    obtain ⟨k, m, hk, rfl, hs, rfl⟩ := hrel
    by_cases hlt : k < n
    · obtain ⟨b0, o0, rfl, _, hc⟩ := hr.at_ (k := k) (by rw [List.length_map, ← Hn.out]; exact hlt)
      obtain ⟨b1, o1, rfl, _, hc'⟩ := hr'.at_ (k := k) (by rw [List.length_map, ← Hb.out]; exact hlt)
      simp only [List.getElem_map, B] at hc hc'
      have ka : k < a.length := by rw [← Hn.out]; exact hlt
      have kb : k < b.length := by rw [← Hb.out]; exact hlt
      have hx : Hid (a[k] = b[k] → a.take (k + 1) = b.take (k + 1)) := Lib.hid (same_at a b k ka (by rw [← Hn.out, ← Hb.out]) hs.out)
      have hy : Hid (a[k] ≠ b[k] → (a == b) = false) := Lib.hid (fun h => by
        rw [beq_eq_false_iff_ne]
        rintro rfl
        exact h rfl)
      generalize a[k] = x at hc hx hy
      generalize b[k] = y at hc' hx hy
      by_cases hxy : x = y
      · have hx2 := Lib.hid (hx.out hxy)
        subst hxy
        clear hx hy ka kb
        go_wp2_with fail
        refine any_begin (fun w' => w'.cell? ⟨b0, o0 + k, none⟩ = some (.int .u8 (x.toNat : Int)) ∧ w'.cell? ⟨b1, o1 + k, none⟩ = some (.int .u8 (x.toNat : Int))) (by kernel_rfl) ⟨hc, hc'⟩ (fun hS0 => ?_)
        refine any_take 0 (v := ?_) rfl rfl (by kernel_rfl) (by kernel_rfl) (by kernel_rfl) (fun _ _ _ h => h) hS0 ?_ ?_
        rotate_left
        · (intro w' hSw; (try dsimp only at hSw); go_simp; first | done | with_reducible rfl)
        try simp only [Act.put, List.setIfInBounds_toArray, List.set_cons_zero, List.set_cons_succ]
        refine any_take 1 (v := ?_) rfl rfl (by kernel_rfl) (by kernel_rfl) (by kernel_rfl) (fun _ _ _ h => h) hS0 ?_ ?_
        rotate_left
        · (intro w' hSw; (try dsimp only at hSw); go_simp; first | done | with_reducible rfl)
        try simp only [Act.put, List.setIfInBounds_toArray, List.set_cons_zero, List.set_cons_succ]
        refine any_take 2 (v := ?_) rfl rfl (by kernel_rfl) (by kernel_rfl) (by kernel_rfl) (fun _ _ _ h => h) hS0 ?_ ?_
        rotate_left
        · (intro w' hSw; (try dsimp only at hSw); go_simp; first | done | with_reducible rfl)
        try simp only [Act.put, List.setIfInBounds_toArray, List.set_cons_zero, List.set_cons_succ]
        refine any_take 3 (v := ?_) rfl rfl (by kernel_rfl) (by kernel_rfl) (by kernel_rfl) (fun _ _ _ h => h) hS0 ?_ ?_
        rotate_left
        · (intro w' hSw; (try dsimp only at hSw); go_simp; first | done | with_reducible rfl)
        try simp only [Act.put, List.setIfInBounds_toArray, List.set_cons_zero, List.set_cons_succ]
        refine any_take 4 (v := ?_) rfl rfl (by kernel_rfl) (by kernel_rfl) (by kernel_rfl) (fun _ _ _ h => h) hS0 ?_ ?_
        rotate_left
        · (intro w' hSw; (try dsimp only at hSw); go_simp; first | done | with_reducible rfl)
        try simp only [Act.put, List.setIfInBounds_toArray, List.set_cons_zero, List.set_cons_succ]
        refine any_take 5 (v := ?_) rfl rfl (by kernel_rfl) (by kernel_rfl) (by kernel_rfl) (fun _ _ _ h => h) hS0 ?_ ?_
        rotate_left
        · (intro w' hSw; (try dsimp only at hSw); go_simp; first | done | with_reducible rfl)
        try simp only [Act.put, List.setIfInBounds_toArray, List.set_cons_zero, List.set_cons_succ]
        refine any_take 6 (v := ?_) rfl rfl (by kernel_rfl) (by kernel_rfl) (by kernel_rfl) (fun _ _ _ h => h) hS0 ?_ ?_
        rotate_left
        · (intro w' hSw; (try dsimp only at hSw); go_simp; first | done | with_reducible rfl)
        try simp only [Act.put, List.setIfInBounds_toArray, List.set_cons_zero, List.set_cons_succ]
        refine any_take 7 (v := ?_) rfl rfl (by kernel_rfl) (by kernel_rfl) (by kernel_rfl) (fun _ _ _ h => h) hS0 ?_ ?_
        rotate_left
        · (intro w' hSw; (try dsimp only at hSw); go_simp; first | done | with_reducible rfl)
        try simp only [Act.put, List.setIfInBounds_toArray, List.set_cons_zero, List.set_cons_succ]
        refine any_take 8 (v := ?_) rfl rfl (by kernel_rfl) (by kernel_rfl) (by kernel_rfl) (fun _ _ _ h => h) hS0 ?_ ?_
        rotate_left
        · (intro w' hSw; (try dsimp only at hSw); go_simp; first | done | with_reducible rfl)
        try simp only [Act.put, List.setIfInBounds_toArray, List.set_cons_zero, List.set_cons_succ]
        refine any_done (by kernel_rfl) (NoPanic.normal ?_)
        clear hS0
        go_wp2_with fail
        exact ⟨⟨k + 1, m + 1, by omega, by simp, hx2, rfl⟩, by simp [intOf]; omega⟩
      · have hy2 := Lib.hid (hy.out hxy)
        have h1 : ((x.toNat : Int) == (y.toNat : Int)) = false := by
          rw [beq_eq_false_iff_ne]
          intro h
          exact hxy (UInt8.toNat_inj.mp (by omega))
        have h2 : ((x.toNat : Int) != (y.toNat : Int)) = true := by rw [bne, h1]; rfl
        have h3 : ¬ ((x.toNat : Int) = (y.toNat : Int)) := by simpa using h1
        clear hx hy ka kb hxy
        go_wp2_with fail
        refine any_begin (fun w' => w'.cell? ⟨b0, o0 + k, none⟩ = some (.int .u8 (x.toNat : Int)) ∧ w'.cell? ⟨b1, o1 + k, none⟩ = some (.int .u8 (y.toNat : Int))) (by kernel_rfl) ⟨hc, hc'⟩ (fun hS0 => ?_)
        refine any_take 0 (v := ?_) rfl rfl (by kernel_rfl) (by kernel_rfl) (by kernel_rfl) (fun _ _ _ h => h) hS0 ?_ ?_
        rotate_left
        · (intro w' hSw; (try dsimp only at hSw); go_simp; first | done | with_reducible rfl)
        try simp only [Act.put, List.setIfInBounds_toArray, List.set_cons_zero, List.set_cons_succ]
        refine any_take 1 (v := ?_) rfl rfl (by kernel_rfl) (by kernel_rfl) (by kernel_rfl) (fun _ _ _ h => h) hS0 ?_ ?_
        rotate_left
        · (intro w' hSw; (try dsimp only at hSw); go_simp; first | done | with_reducible rfl)
        try simp only [Act.put, List.setIfInBounds_toArray, List.set_cons_zero, List.set_cons_succ]
        refine any_take 2 (v := ?_) rfl rfl (by kernel_rfl) (by kernel_rfl) (by kernel_rfl) (fun _ _ _ h => h) hS0 ?_ ?_
        rotate_left
        · (intro w' hSw; (try dsimp only at hSw); go_simp; first | done | with_reducible rfl)
        try simp only [Act.put, List.setIfInBounds_toArray, List.set_cons_zero, List.set_cons_succ]
        refine any_take 3 (v := ?_) rfl rfl (by kernel_rfl) (by kernel_rfl) (by kernel_rfl) (fun _ _ _ h => h) hS0 ?_ ?_
        rotate_left
        · (intro w' hSw; (try dsimp only at hSw); go_simp; first | done | with_reducible rfl)
        try simp only [Act.put, List.setIfInBounds_toArray, List.set_cons_zero, List.set_cons_succ]
        refine any_take 4 (v := ?_) rfl rfl (by kernel_rfl) (by kernel_rfl) (by kernel_rfl) (fun _ _ _ h => h) hS0 ?_ ?_
        rotate_left
        · (intro w' hSw; (try dsimp only at hSw); go_simp; first | done | with_reducible rfl)
        try simp only [Act.put, List.setIfInBounds_toArray, List.set_cons_zero, List.set_cons_succ]
        refine any_take 5 (v := ?_) rfl rfl (by kernel_rfl) (by kernel_rfl) (by kernel_rfl) (fun _ _ _ h => h) hS0 ?_ ?_
        rotate_left
        · (intro w' hSw; (try dsimp only at hSw); go_simp; first | done | with_reducible rfl)
        try simp only [Act.put, List.setIfInBounds_toArray, List.set_cons_zero, List.set_cons_succ]
        refine any_take 6 (v := ?_) rfl rfl (by kernel_rfl) (by kernel_rfl) (by kernel_rfl) (fun _ _ _ h => h) hS0 ?_ ?_
        rotate_left
        · (intro w' hSw; (try dsimp only at hSw); go_simp; first | done | with_reducible rfl)
        try simp only [Act.put, List.setIfInBounds_toArray, List.set_cons_zero, List.set_cons_succ]
        refine any_take 7 (v := ?_) rfl rfl (by kernel_rfl) (by kernel_rfl) (by kernel_rfl) (fun _ _ _ h => h) hS0 ?_ ?_
        rotate_left
        · (intro w' hSw; (try dsimp only at hSw); go_simp; first | done | with_reducible rfl)
        try simp only [Act.put, List.setIfInBounds_toArray, List.set_cons_zero, List.set_cons_succ]
        refine any_take 8 (v := ?_) rfl rfl (by kernel_rfl) (by kernel_rfl) (by kernel_rfl) (fun _ _ _ h => h) hS0 ?_ ?_
        rotate_left
        · (intro w' hSw; (try dsimp only at hSw); go_simp; first | done | with_reducible rfl)
        try simp only [Act.put, List.setIfInBounds_toArray, List.set_cons_zero, List.set_cons_succ]
        refine any_done (by kernel_rfl) (NoPanic.normal ?_)
        clear hS0
        go_wp2_with fail
        go_ret
        exact ⟨by rw [hy2.out]; rfl, m + 1, rfl⟩
    · obtain rfl : k = n := by omega
      have hab : (a == b) = true := by
        have h := hs.out
        rw [List.take_of_length_le (by rw [← Hn.out]; exact Nat.le_refl _), List.take_of_length_le (by rw [← Hb.out]; exact Nat.le_refl _)] at h
        rw [h, beq_self_eq_true]
      have HAB := Lib.hid hab
      clear hab hlt hk
      go_wp2_with fail
      go_ret
      exact ⟨by rw [HAB.out]; rfl, m, rfl⟩

set_option maxRecDepth 100000 in
set_option maxHeartbeats 1000000 in
/-- Check: is the tag just that? -/
theorem check_any (A A' A2 : Option Addr) (n c n' c' n2 c2 D : Nat) (key b tag : List UInt8) (w : World) (r : Bool) (hres : (decide (tag = macL key b)) = r) (hn : n = key.length) (hn' : n' = b.length) (hn2 : n2 = tag.length) (hr : RdB w D A key) (hr' : RdB w D A' b) (hr2 : RdB w D A2 tag) (hD : D ≤ w.heap.size) (hL : (key.length : Int) ≤ 10000) (hL' : (b.length : Int) ≤ 10000) :
    Calls Try.prog 51 #[.slice A n c, .slice A' n' c', .slice A2 n2 c2] w fun e w' => e = .returned (.bool r) ∧ Below w.heap.size w w' := by
  have HRES := Lib.hid hres
  have Hn2 := Lib.hid hn2
  have HR2 := Lib.hid hr2
  have HMAC := Lib.hid (macSum_any A A' n c n' c' D key b w hn hn' hr hr' hD hL hL')
  clear hres hn hn' hn2 hr hr' hr2 hL hL'
  go_enter Try.func51, Try.ntmps51
  go_wp2_with fail
  refine HMAC.out.mono ?_
  rintro e w1 ⟨rfl, b1⟩
  have hs1 := b1.size
  have hml := macL_len key b
  generalize macL key b = M at *
  have blk0 := Blk.new w1 64 (bcells z32)
  have HML := Lib.hid hml
  have B1 := Lib.hid b1
  clear hml b1 HMAC
  go_wp2_with (first
    | (refine wpList_alloc_row rfl 64 rfl (bcells z32) zero32 ?_)
    | (refine wpList_store_row rfl 64 _ _ rfl w1.heap.size 64 (bcells z32) (bcells M) rfl rfl blk0 (by rw [bcells_size, bcells_size, HML.out, z32_len]) (bcells_one _) (by rw [bcells_size, HML.out, size32]) ?_; intro w2 blk2 g2 sz2; replace sz2 := Lib.hid sz2; replace g2 := Lib.hid g2; replace blk2 := Lib.hid blk2))
  have bel2 : Below w.heap.size w w2 := (B1.out.alloc hs1 _).grown g2.out (by simp; omega) (fun k hk => by injection hk with e; omega)
  have key2 : Calls Try.prog 68 #[.slice (some ⟨w1.heap.size, 0, none⟩) 32 32, .slice A2 n2 c2] w2 fun e w' => e = .returned (.bool r) ∧ ∃ m, w' = w2.drewN m := by
    by_cases h32 : 32 = n2
    · have h := equal_any (some ⟨w1.heap.size, 0, none⟩) A2 32 32 c2 w2.heap.size M tag w2 HML.out.symm (h32.trans Hn2.out) blk2.out.rdB ((HR2.out.below (bel2.mono hD)).mono (by have := bel2.size; omega)) (by omega)
      rw [h32] at h ⊢
      have e : (M == tag) = r := by
        rw [← HRES.out]
        by_cases ht : tag = M
        · rw [ht, beq_self_eq_true, decide_eq_true rfl]
        · rw [decide_eq_false ht, beq_eq_false_iff_ne]; exact fun h => ht h.symm
      rw [e] at h
      exact h
    · have h := equal_no (some ⟨w1.heap.size, 0, none⟩) A2 32 32 n2 c2 w2 h32
      have e : r = false := by
        rw [← HRES.out, decide_eq_false_iff_not]
        rintro rfl
        exact h32 (by rw [Hn2.out, HML.out])
      rw [e]
      exact h
  have KEY := Lib.hid key2
  clear key2 blk0 HRES
  refine KEY.out.mono ?_
  rintro e w3 ⟨rfl, m, rfl⟩
  go_wp2_with fail
  go_ret
  exact ⟨rfl, below_drewN bel2 m⟩

end Go.Proofs.Ytehhgfkbcjbciaa
