/- stillroomref1.quick, stillroomref1.Mac. -/
import Derived.Test.YtehhgfkbcjbciaaRefDig
namespace Go.Proofs.Ytehhgfkbcjbciaa
open Go.RowKit

set_option maxRecDepth 100000 in
set_option maxHeartbeats 1000000 in
theorem refQuick_any (A : Option Addr) (n c D : Nat) (b : List UInt8) (w : World) (hn : n = b.length) (hr : RdB w D A b) (hD : D ≤ w.heap.size) (hL : (n : Int) ≤ 10000) :
    Calls Try.prog 67 #[.slice A n c] w fun e w' => e = .returned (.agg (bcells (sha b))) ∧ Below w.heap.size w w' := by
  have HN := Lib.hid hn
  have HR := Lib.hid hr
  have hml := sha_len b
  have HML := Lib.hid hml
  clear hr hn hml
  go_enter Try.func67, Try.ntmps67
  go_upto_region 1 with (refine wpList_alloc_row rfl 64 rfl (bcells z32) zero32 ?_)
  have blk0 := Blk.new w 64 (bcells z32)
  have bel0 := (Below.refl w.heap.size w).alloc (Nat.le_refl _) (.cells (bcells z32) 64)
  generalize w.alloc (.cells (bcells z32) 64) = w1 at *
  have hs0 := bel0.size
  have lt0 := blk0.lt
  have blk1 := Blk.new w1 84 (wcells z64)
  go_upto_region 2 with (first
    | (refine wpList_build_row rfl 84 _ rfl (.agg (wcells ks)) (by kernel_rfl) ?_)
    | (refine wpList_alloc_row rfl 84 rfl (wcells z64) zero64 ?_)
    | (refine wpList_store_row rfl 84 _ _ rfl w1.heap.size 84 (wcells z64) (wcells ks) rfl rfl blk1 (by simp only [wcells_size, ks_len, z64_len]) (wcells_one _) (by rw [wcells_size, ks_len, size64]) ?_; intro w2 blk2 g2 sz2; replace sz2 := Lib.hid sz2))
  have bel2 : Below w.heap.size w w2 := (bel0.alloc hs0 _).grown g2 (by simp; omega) (fun k hk => by injection hk with e; omega)
  have blk02 : Blk w2 w.heap.size 64 (bcells z32) := (blk0.alloc _).grown g2 (by simp; omega)
  have hs2 := bel2.size
  have lt2 := blk2.lt
  clear bel0 blk0 blk1 g2
  have blk3 := Blk.new w2 85 (wcells z8)
  go_upto_region 3 with (first
    | (refine wpList_build_row rfl 85 _ rfl (.agg (wcells h0s)) (by kernel_rfl) ?_)
    | (refine wpList_alloc_row rfl 85 rfl (wcells z8) zero8 ?_)
    | (refine wpList_store_row rfl 85 _ _ rfl w2.heap.size 85 (wcells z8) (wcells h0s) rfl rfl blk3 (by simp only [wcells_size, h0s_len, z8_len]) (wcells_one _) (by rw [wcells_size, h0s_len, size8]) ?_; intro w4 blk4 g4 sz4; replace sz4 := Lib.hid sz4))
  have bel4 : Below w.heap.size w w4 := (bel2.alloc hs2 _).grown g4 (by simp; omega) (fun k hk => by injection hk with e; omega)
  have blk04 : Blk w4 w.heap.size 64 (bcells z32) := (blk02.alloc _).grown g4 (by simp; omega)
  have blk24 : Blk w4 w1.heap.size 84 (wcells ks) := (blk2.alloc _).grown g4 (by simp; omega)
  have hs4 := bel4.size
  have BEL4 := Lib.hid bel4
  have BLK04 := Lib.hid blk04
  clear bel2 blk02 blk2 blk3 g4 bel4 blk04
  go_wp2_with (first
    | (refine wpList_load_row' rfl 84 _ rfl w1.heap.size 84 (wcells ks) rfl blk24 64 26 Try.underlying84 (by rw [wcells_size, ks_len, size64]) ?_)
    | (refine wpList_load_row' rfl 85 _ rfl w2.heap.size 85 (wcells h0s) rfl blk4 8 26 Try.underlying85 (by rw [wcells_size, h0s_len, size8]) ?_))
  refine (refDigest_any A n c D b w4 HN.out (HR.out.below (BEL4.out.mono hD)) (by omega) hL).mono ?_
  rintro e w5 ⟨rfl, b5⟩
  have bel5 := BEL4.out.trans (b5.mono hs4)
  have blk5 := BLK04.out.below b5 BLK04.out.lt
  clear b5 blk24 blk4
  go_wp2_with (refine wpList_store_row rfl 64 _ _ rfl w.heap.size 64 (bcells z32) (bcells (sha b)) rfl rfl blk5 (store_res b) (bcells_one _) (by rw [bcells_size, HML.out, size32]) ?_; intro w9 blk9 g9 sz9)
  have hl := load_row w9 64 w.heap.size 64 (bcells (sha b)) blk9 32 5 Try.underlying64 (by rw [bcells_size, HML.out, size32])
  refine bodyPost_ret (v := .agg (bcells (sha b))) (by simp [results, Try.results67, Act.put, asAddr, hl]) rfl ⟨rfl, bel5.grown g9 bel5.size (fun k hk => by injection hk with e; omega)⟩

theorem wp_make_u8 {o : Oper} {a : Act} {K : Act → World → Prop} {Q : Exit → Act → World → Prop} {w : World} (l c : Operand)
    (ho : o.op = Op.makeSlice 24 l c) (base : Nat) (L C : Int) (n : Nat) (hl : a.eval l = .int .i64 L) (hc : a.eval c = .int .i64 C) (hL : L = (n : Int)) (hC : C = (n : Int)) (hn : n ≤ 281474976710656) (hbase : base ≤ w.heap.size)
    (h : ∀ w', OwnB w' base (.slice (some ⟨w.heap.size, 0, none⟩) n n) (List.replicate n 0) → w.grownBy w' none → K (a.put o.dst (.slice (some ⟨w.heap.size, 0, none⟩) n n)) w') : Oper.wp Try.prog o a w K Q := by
  obtain ⟨i, hi, hz0, hz1, hz2⟩ := info_parts info_u8
  obtain ⟨w', hrun, r1, r2⟩ := run_make_full (P := Try.prog) w base 24 5 i (.int .u8 0) 1 Try.underlying24 hi hz0 hz1 .i64 .i64 n (by rw [hz2]; omega) (by unfold maxLen; omega) hbase
  subst hL
  subst hC
  have e : (madeCells (Value.int .u8 0).cells (n * 1)).toList = (List.replicate n (0 : UInt8)).map B := by
    rw [Nat.mul_one]
    show (madeCells #[.int .u8 0] n).toList = _
    rw [toList_madeCells_one, List.map_replicate]; rfl
  have own : OwnB w' base (.slice (some ⟨w.heap.size, 0, none⟩) n n) (List.replicate n 0) := by
    unfold OwnB
    rw [List.length_replicate, ← e]
    exact r1
  unfold Oper.wp
  simp [execOp, ho, hl, hc, hrun, Result.andThen]
  exact h w' own r2

/-- the first k bytes of a key's block turned, the rest noughts -/
def fillK (KB : List UInt8) (x : UInt8) (k : Nat) : List UInt8 := (KB.take k).map (· ^^^ x) ++ List.replicate (64 - k) 0

theorem fillK_zero (KB : List UInt8) (x : UInt8) : fillK KB x 0 = List.replicate 64 0 := by simp [fillK]

theorem fillK_all (key : List UInt8) (x : UInt8) : fillK (keyBlock key) x 64 = turnL key x := by
  unfold fillK turnL
  rw [List.take_of_length_le (by rw [keyBlock_len]; omega)]
  simp

theorem fillK_len (KB : List UInt8) (x : UInt8) (h : KB.length = 64) (k : Nat) (hk : k ≤ 64) : (fillK KB x k).length = 64 := by
  unfold fillK; simp [h]; omega

theorem fillK_at (KB : List UInt8) (x : UInt8) (h : KB.length = 64) (k : Nat) (hk : k < 64) : (fillK KB x k)[k]? = some 0 := by
  unfold fillK
  rw [List.getElem?_append_right (by simp; omega)]
  simp only [List.length_map, List.length_take, h]
  rw [show k - min k 64 = 0 from by omega, List.getElem?_replicate, if_pos (by omega)]

theorem fillK_set (KB : List UInt8) (x c : UInt8) (h : KB.length = 64) (k : Nat) (hk : k < 64) (hc : KB[k]? = some c) : (fillK KB x k).set k (c ^^^ x) = fillK KB x (k + 1) := by
  have hk' : k < KB.length := by omega
  have hc' : KB[k] = c := by rw [List.getElem?_eq_getElem hk'] at hc; exact Option.some.inj hc
  unfold fillK
  rw [List.take_succ_eq_append_getElem hk', List.map_append, List.set_append_right _ _ (by simp; omega)]
  simp only [List.length_map, List.length_take, h]
  obtain ⟨m, hm⟩ : ∃ m, 64 - k = m + 1 := ⟨63 - k, by omega⟩
  rw [show k - min k 64 = 0 from by omega, hm, show 64 - (k + 1) = m from by omega, List.replicate_succ, List.set_cons_zero, List.append_assoc, hc']
  rfl

theorem keyBlock_in (key : List UInt8) (k : Nat) (h : k < (keyOf key).length) : (keyBlock key)[k]? = some (keyOf key)[k] := by
  unfold keyBlock
  rw [List.getElem?_append_left h, List.getElem?_eq_getElem h]

theorem keyBlock_out (key : List UInt8) (k : Nat) (h : ¬ k < (keyOf key).length) (hk : k < 64) : (keyBlock key)[k]? = some 0 := by
  have := keyOf_len key
  unfold keyBlock
  rw [List.getElem?_append_right (by omega), List.getElem?_replicate, if_pos (by omega)]

/-- the tag is given -/
def Tagged (w : World) (key b : List UInt8) (e : Ending) (w' : World) : Prop := e = .returned (.agg (bcells (macL key b))) ∧ Below w.heap.size w w'

set_option maxRecDepth 100000 in
set_option maxHeartbeats 4000000 in
theorem refMac_any (A A' : Option Addr) (n c n' c' D : Nat) (key b : List UInt8) (w : World) (hn : n = key.length) (hn' : n' = b.length) (hr : RdB w D A key) (hr' : RdB w D A' b) (hD : D ≤ w.heap.size) (hL : (key.length : Int) ≤ 5000) (hL' : (b.length : Int) ≤ 5000) :
    Calls Try.prog 50 #[.slice A n c, .slice A' n' c'] w (Tagged w key b) := by
  have Hn := Lib.hid hn
  have Hn' := Lib.hid hn'
  have HR := Lib.hid hr
  have HR' := Lib.hid hr'
  have hnb : (n : Int) ≤ 5000 := by omega
  clear hr hr' hn hn'
  go_enter Try.func50, Try.ntmps50
  go_upto_region 1 with (refine wpList_alloc_row rfl 64 rfl (bcells z32) zero32 ?_)
  have blk0 := Blk.new w 64 (bcells z32)
  have bel0 := (Below.refl w.heap.size w).alloc (Nat.le_refl _) (.cells (bcells z32) 64)
  generalize w.alloc (.cells (bcells z32) 64) = w1 at *
  have hs0 := bel0.size
  have lt0 := blk0.lt
  have BLK0 := Lib.hid blk0
  have BEL0 := Lib.hid bel0
  clear blk0 bel0
  by_cases h64 : 64 < n
  · have hko : keyOf key = sha key := by unfold keyOf; rw [if_pos (by rw [← Hn.out]; exact h64)]
    have hk32 : (keyOf key).length = 32 := by rw [hko, sha_len]
    have HKO := Lib.hid hko
    clear hko
    go_wp2_with fail
    refine (refQuick_any A n c D key w1 Hn.out (HR.out.below (BEL0.out.mono hD)) (by omega) (by omega)).mono ?_
    rintro e w2 ⟨rfl, b2⟩
    have blk2 := BLK0.out.below b2 BLK0.out.lt
    have bel2 := BEL0.out.trans (b2.mono hs0)
    have hs2 := bel2.size
    have blkn := Blk.new w2 64 (bcells z32)
    clear b2
    go_upto_region 4 with (first
      | (refine wpList_alloc_row rfl 64 rfl (bcells z32) zero32 ?_)
      | (refine wpList_store_row rfl 64 _ _ rfl w2.heap.size 64 (bcells z32) (bcells (sha key)) rfl rfl blkn (store_res key) (bcells_one _) (by rw [bcells_size, sha_len, size32]) ?_; intro w3 blk3 g3 sz3; replace sz3 := Lib.hid sz3))
    have bel3 : Below w.heap.size w w3 := (bel2.alloc hs2 _).grown g3 (by simp; omega) (fun k hk => by injection hk with e; omega)
    have blk03 : Blk w3 w.heap.size 64 (bcells z32) := (blk2.alloc _).grown g3 (by have := blk2.lt; simp; omega)
    have rd3 : RdB w3 w3.heap.size (some ⟨w2.heap.size, 0, none⟩) (keyOf key) := by rw [HKO.out]; exact blk3.rdB
    clear blk2 bel2 blkn g3 blk3
    have hkl := keyBlock_len key
    have hK64 := keyOf_len key
    have hKn := hk32
    have HKN := Lib.hid hKn
    have HKL := Lib.hid hkl
    have hn64 : 32 ≤ 64 := by omega
    have BELA := Lib.hid bel3
    have RDA := Lib.hid rd3
    have BLKA := Lib.hid blk03
    have hsA := BELA.out.size
    have hsB : w.heap.size + 1 ≤ w3.heap.size := BLKA.out.lt
    clear hkl hK64 hKn
    refine any_begin (fun _ => True) (by kernel_rfl) trivial (fun hS0 => ?_)
    refine any_two 0 1 (by kernel_rfl) rfl rfl rfl rfl (fun K hK => ?_) (fun K hK => ?_)
    ·
      refine wp_make_u8 _ _ rfl (w.heap.size + 1) 64 64 64 rfl rfl rfl rfl (by omega) (by simp; omega) (fun wb ownb gb => ?_)
      have blkb := ownb.blk
      have blk0b := Blk.grown (w := w3.drew) BLKA.out gb (by simp)
      have belb := BELA.out.drew.grown gb (by simpa using hsA) (fun k hk => by cases hk)
      have rdb : RdB wb w3.heap.size (some ⟨w2.heap.size, 0, none⟩) (keyOf key) := RdB.grown (w := w3.drew) RDA.out gb (by simp) (fun k hk => by cases hk)
      have hgb : w.heap.size + 1 ≤ w3.heap.size := hsB
      have hsb := belb.size
      have ltb : w3.heap.size < wb.heap.size := blkb.lt
      refine hK _ _ trivial (fun hS1 => ?_)
      clear hK K
      try simp only [Act.put, List.setIfInBounds_toArray, List.set_cons_zero, List.set_cons_succ]
      refine any_take 2 (v := ?_) rfl rfl (by kernel_rfl) (by kernel_rfl) (by kernel_rfl) (fun _ _ _ h => h) hS1 ?_ ?_
      rotate_left
      · (intro w' hSw; (try dsimp only at hSw); go_simp; first | done | with_reducible rfl)
      try simp only [Act.put, List.setIfInBounds_toArray, List.set_cons_zero, List.set_cons_succ]
      refine any_one 1 (by kernel_rfl) rfl rfl (fun K hK => ?_)
      refine wp_make_u8 _ _ rfl (w.heap.size + 1) 64 64 64 rfl rfl rfl rfl (by omega) (by omega) (fun wc ownc gc => ?_)
      have blkc := ownc.blk
      have blkb' := blkb.grown gc (by simp)
      have blk0c := blk0b.grown gc (by simp)
      have belc := belb.grown gc hsb (fun k hk => by cases hk)
      have rdc : RdB wc w3.heap.size (some ⟨w2.heap.size, 0, none⟩) (keyOf key) := rdb.grown gc (by omega) (fun k hk => by cases hk)
      refine hK _ _ trivial (fun hS2 => ?_)
      clear hK K
      try simp only [Act.put, List.setIfInBounds_toArray, List.set_cons_zero, List.set_cons_succ]
      refine any_take 3 (v := ?_) rfl rfl (by kernel_rfl) (by kernel_rfl) (by kernel_rfl) (fun _ _ _ h => h) hS2 ?_ ?_
      rotate_left
      · (intro w' hSw; (try dsimp only at hSw); go_simp; first | done | with_reducible rfl)
      try simp only [Act.put, List.setIfInBounds_toArray, List.set_cons_zero, List.set_cons_succ]
      refine any_done (by kernel_rfl) (NoPanic.normal ?_)
      have neGI : w3.heap.size ≠ wb.heap.size := by omega
      have geI : w.heap.size + 1 ≤ w3.heap.size := by omega
      have geO : w.heap.size + 1 ≤ wb.heap.size := by omega
      have geI' : w3.heap.size ≤ w3.heap.size := by omega
      have geO' : w3.heap.size ≤ wb.heap.size := by omega
      have blkI : Blk wc w3.heap.size 5 (bcells (fillK (keyBlock key) 0x36 0)) := by rw [fillK_zero]; exact blkb'
      have blkO : Blk wc wb.heap.size 5 (bcells (fillK (keyBlock key) 0x5c 0)) := by rw [fillK_zero]; exact blkc
      clear ownb ownc gb gc blkb blk0b belb rdb hS0 hS1 hS2 BELA RDA BLKA hgb hsb blkc blkb'
      go_wp2_with fail
      go_loopw [8] (fun i wr => ∃ k : Nat, k ≤ 64 ∧ i = .int .i64 k ∧ Blk wr w3.heap.size 5 (bcells (fillK (keyBlock key) 0x36 k)) ∧ Blk wr wb.heap.size 5 (bcells (fillK (keyBlock key) 0x5c k)) ∧ Blk wr w.heap.size 64 (bcells z32) ∧ RdB wr w3.heap.size (some ⟨w2.heap.size, 0, none⟩) (keyOf key) ∧ Below w.heap.size w wr) (fun i _ => 64 - (intOf i).toNat)
      case atStart => exact ⟨0, by omega, rfl, blkI, blkO, blk0c, rdc, belc⟩
      case round =>
        clear blkI blkO blk0c rdc belc
        obtain ⟨k, hk, rfl, blkI, blkO, blk0, rdk, bel⟩ := hrel
        by_cases hlt : k < 64
        · have fi := blkI.frozen k
          have fo := blkO.frozen k
          have ci := bcell_at blkI k 0 (fillK_at _ _ HKL.out k hlt)
          have co := bcell_at blkO k 0 (fillK_at _ _ HKL.out k hlt)
          have keepR : ∀ (x y : Value), RdB ((wr.setCell ⟨w3.heap.size, k, none⟩ x).setCell ⟨wb.heap.size, k, none⟩ y) w3.heap.size (some ⟨w2.heap.size, 0, none⟩) (keyOf key) := fun x y => rdk.keep fun p hp => (World.cell?_of_block (Below.heap_setCell _ ⟨wb.heap.size, k, none⟩ y p.block (by show p.block ≠ wb.heap.size; omega))).trans (World.cell?_of_block (Below.heap_setCell wr ⟨w3.heap.size, k, none⟩ x p.block (by show p.block ≠ w3.heap.size; omega)))
          have KEEP := Lib.hid keepR
          have BI := Lib.hid blkI
          have BO := Lib.hid blkO
          have B0 := Lib.hid blk0
          have BEL := Lib.hid bel
          clear keepR blkI blkO blk0 bel
          by_cases hin : k < 32
          · have hin' : k < (keyOf key).length := by rw [HKN.out]; exact hin
            have hkb := keyBlock_in key k hin'
            obtain ⟨bb, off, hA, _, hc⟩ := rdk.at_ (k := k) (by rw [List.length_map]; exact hin')
            simp only [List.getElem_map, B] at hc
            generalize (keyOf key)[k] = y at hkb hc
            have x1 : bits .xor .u8 (y.toNat : Int) 54 = ((y ^^^ 0x36).toNat : Int) := u8_xor y 0x36
            have x2 : bits .xor .u8 (y.toNat : Int) 92 = ((y ^^^ 0x5c).toNat : Int) := u8_xor y 0x5c
            have s1 := Lib.hid (fillK_set (keyBlock key) 0x36 y HKL.out k hlt hkb)
            have s2 := Lib.hid (fillK_set (keyBlock key) 0x5c y HKL.out k hlt hkb)
            generalize y ^^^ 0x36 = z1 at x1 s1
            generalize y ^^^ 0x5c = z2 at x2 s2
            clear rdk hkb hin'
            (have hA' := Option.some.inj hA; injection hA' with h1 h2; subst h1 h2; rw [Nat.zero_add] at hc)
            go_wp2_with fail
            refine ⟨⟨k + 1, by omega, by simp, ?_, ?_, (B0.out.other (by omega) _).other (by omega) _, KEEP.out _ _, (BEL.out.setCell (p := ⟨w3.heap.size, k, none⟩) (by show w.heap.size ≤ w3.heap.size; omega) _).setCell (p := ⟨wb.heap.size, k, none⟩) (by show w.heap.size ≤ wb.heap.size; omega) _⟩, by simp [intOf]; omega⟩
            · rw [← s1.out, ← bcells_set]
              exact (BI.out.store k _).other neGI _
            · rw [← s2.out, ← bcells_set]
              exact (BO.out.other neGI.symm _).store k _
          · have hkb := keyBlock_out key k (by rw [HKN.out]; exact hin) hlt
            have s1 := Lib.hid (fillK_set (keyBlock key) 0x36 0 HKL.out k hlt hkb)
            have s2 := Lib.hid (fillK_set (keyBlock key) 0x5c 0 HKL.out k hlt hkb)
            clear rdk hkb
            go_wp2_with fail
            refine ⟨⟨k + 1, by omega, by simp, ?_, ?_, (B0.out.other (by omega) _).other (by omega) _, KEEP.out _ _, (BEL.out.setCell (p := ⟨w3.heap.size, k, none⟩) (by show w.heap.size ≤ w3.heap.size; omega) _).setCell (p := ⟨wb.heap.size, k, none⟩) (by show w.heap.size ≤ wb.heap.size; omega) _⟩, by simp [intOf]; omega⟩
            · rw [← s1.out, ← bcells_set]
              exact (BI.out.store k _).other neGI _
            · rw [← s2.out, ← bcells_set]
              exact (BO.out.other neGI.symm _).store k _
        · obtain rfl : k = 64 := by omega
          rw [fillK_all] at blkI blkO
          have hti := turnL_len key 0x36
          have hto := turnL_len key 0x5c
          have ownI : OwnB wr (w.heap.size + 1) (.slice (some ⟨w3.heap.size, 0, none⟩) 64 64) (turnL key 0x36) := by
            have h := OwnB.of_blk blkI geI (by rw [hti]; unfold maxLen; omega)
            rwa [hti] at h
          have hl1 : (turnL key 0x36).length + b.length ≤ 140737488355328 := by rw [hti]; omega
          have HL1 := Lib.hid hl1
          have HTI := Lib.hid hti
          have HTO := Lib.hid hto
          have OWNI := Lib.hid ownI
          have BLKO := Lib.hid blkO
          have B0 := Lib.hid blk0
          have BEL := Lib.hid bel
          have RDB' := Lib.hid (HR'.out.below (bel.mono hD))
          have hsr : w.heap.size + 1 ≤ wr.heap.size := blk0.lt
          clear rdk blkI blkO blk0 bel hti hto ownI hl1 hlt hk
          go_wp2_with (at_builtin; refine wpList_append_u8 rfl (.tmp 41) (.tmp 42) rfl (w.heap.size + 1) (.slice (some ⟨w3.heap.size, 0, none⟩) 64 64) (turnL key 0x36) rfl OWNI.out D A' n' c' b rfl Hn'.out RDB'.out HL1.out hsr ?_; intro v9 w9 own9 g9; obtain ⟨A9, n9, c9, rfl, hn9, _, _, rd9⟩ := own9.slice'; replace own9 := Lib.hid own9; replace g9 := Lib.hid g9; replace rd9 := Lib.hid rd9)
          have g9' : wr.grownBy w9 (some w3.heap.size) := g9.out
          have blkO9 := BLKO.out.grown g9' (fun e => neGI (by injection e))
          have blk09 := B0.out.grown g9' (fun e => by injection e with e; omega)
          have bel9 := BEL.out.grown g9' BEL.out.size (fun k hk => by injection hk with e; omega)
          have hs9 := bel9.size
          refine (refQuick_any A9 n9 c9 w9.heap.size (turnL key 0x36 ++ b) w9 hn9.out rd9.out (Nat.le_refl _) (by rw [hn9.out, List.length_append, HTI.out]; omega)).mono ?_
          rintro e w10 ⟨rfl, b10⟩
          have blkO10 := blkO9.below b10 blkO9.lt
          have blk010 := blk09.below b10 blk09.lt
          have bel10 := bel9.trans (b10.mono hs9)
          have hs10 := bel10.size
          generalize hM : sha (turnL key 0x36 ++ b) = M
          have HM := Lib.hid hM
          have hml : M.length = 32 := by rw [← hM]; exact sha_len _
          have HML := Lib.hid hml
          have BLKO10 := Lib.hid blkO10
          have B010 := Lib.hid blk010
          have BEL10 := Lib.hid bel10
          have blkn := Blk.new w10 64 (bcells z32)
          have lt10 := blkO10.lt
          have lt010 := blk010.lt
          have hmac : sha (turnL key 0x5c ++ M) = macL key b := by unfold macL; rw [hM]
          have HMAC := Lib.hid hmac
          clear own9 g9 rd9 g9' blkO9 blk09 bel9 b10 blkO10 blk010 bel10 hM hml hmac OWNI HL1 BLKO B0 BEL RDB'
          go_upto_region 14 with (first
            | (refine wpList_alloc_row rfl 64 rfl (bcells z32) zero32 ?_)
            | (refine wpList_store_row rfl 64 _ _ rfl w10.heap.size 64 (bcells z32) (bcells M) rfl rfl blkn (by rw [bcells_size, bcells_size, HML.out, z32_len]) (bcells_one _) (by rw [bcells_size, HML.out, size32]) ?_; intro w11 blk11 g11 sz11; replace sz11 := Lib.hid sz11; replace g11 := Lib.hid g11; replace blk11 := Lib.hid blk11))
          have blkO11 : Blk w11 wb.heap.size 5 (bcells (turnL key 0x5c)) := (BLKO10.out.alloc _).grown g11.out (by simp; omega)
          have blk011 : Blk w11 w.heap.size 64 (bcells z32) := (B010.out.alloc _).grown g11.out (by simp; omega)
          have bel11 : Below w.heap.size w w11 := (BEL10.out.alloc hs10 _).grown g11.out (by simp; omega) (fun k hk => by injection hk with e; omega)
          have own11 : OwnB w11 (w.heap.size + 1) (.slice (some ⟨wb.heap.size, 0, none⟩) 64 64) (turnL key 0x5c) := by
            have h := OwnB.of_blk blkO11 geO (by rw [HTO.out]; unfold maxLen; omega)
            rwa [HTO.out] at h
          have rd11 : RdB w11 w11.heap.size (some ⟨w10.heap.size, 0, none⟩) M := blk11.out.rdB
          have hl2 : (turnL key 0x5c).length + M.length ≤ 140737488355328 := by rw [HTO.out, HML.out]; omega
          have HL2 := Lib.hid hl2
          have OWN11 := Lib.hid own11
          have RD11 := Lib.hid rd11
          have B011 := Lib.hid blk011
          have BEL11 := Lib.hid bel11
          have hs11 : w.heap.size + 1 ≤ w11.heap.size := blk011.lt
          clear blkO11 blk011 bel11 own11 rd11 hl2 blkn BLKO10 B010 BEL10 g11 sz11
          go_wp2_with (at_builtin; refine wpList_append_u8 rfl (.tmp 45) (.tmp 46) rfl (w.heap.size + 1) (.slice (some ⟨wb.heap.size, 0, none⟩) 64 64) (turnL key 0x5c) rfl OWN11.out w11.heap.size (some ⟨w10.heap.size, 0, none⟩) 32 32 M rfl HML.out.symm RD11.out HL2.out hs11 ?_; intro v12 w12 own12 g12; obtain ⟨A12, n12, c12, rfl, hn12, _, _, rd12⟩ := own12.slice'; replace own12 := Lib.hid own12; replace g12 := Lib.hid g12; replace rd12 := Lib.hid rd12)
          have g12' : w11.grownBy w12 (some wb.heap.size) := g12.out
          have blk012 := B011.out.grown g12' (fun e => by injection e with e; omega)
          have bel12 := BEL11.out.grown g12' BEL11.out.size (fun k hk => by injection hk with e; omega)
          have hs12 := bel12.size
          refine (refQuick_any A12 n12 c12 w12.heap.size (turnL key 0x5c ++ M) w12 hn12.out rd12.out (Nat.le_refl _) (by rw [hn12.out, List.length_append, HTO.out, HML.out]; omega)).mono ?_
          rintro e w13 ⟨rfl, b13⟩
          rw [HMAC.out]
          have hml13 := macL_len key b
          have HML13 := Lib.hid hml13
          have blk013 := blk012.below b13 blk012.lt
          have bel13 := Lib.hid (bel12.trans (b13.mono hs12))
          clear own12 g12 rd12 g12' blk012 bel12 b13 hml13 OWN11 RD11 B011 BEL11 HL2
          go_wp2_with (refine wpList_store_row rfl 64 _ _ rfl w.heap.size 64 (bcells z32) (bcells (macL key b)) rfl rfl blk013 (by rw [bcells_size, bcells_size, HML13.out, z32_len]) (bcells_one _) (by rw [bcells_size, HML13.out, size32]) ?_; intro w14 blk14 g14 sz14)
          have hl := load_row w14 64 w.heap.size 64 (bcells (macL key b)) blk14 32 5 Try.underlying64 (by rw [bcells_size, HML13.out, size32])
          refine bodyPost_ret (v := .agg (bcells (macL key b))) (by simp [results, Try.results50, Act.put, asAddr, hl]) rfl ⟨rfl, bel13.out.grown g14 bel13.out.size (fun k hk => by injection hk with e; omega)⟩
    ·
      refine wp_make_u8 _ _ rfl (w.heap.size + 1) 64 64 64 rfl rfl rfl rfl (by omega) (by simp; omega) (fun wb ownb gb => ?_)
      have blkb := ownb.blk
      have blk0b := Blk.grown (w := w3.drew) BLKA.out gb (by simp)
      have belb := BELA.out.drew.grown gb (by simpa using hsA) (fun k hk => by cases hk)
      have rdb : RdB wb w3.heap.size (some ⟨w2.heap.size, 0, none⟩) (keyOf key) := RdB.grown (w := w3.drew) RDA.out gb (by simp) (fun k hk => by cases hk)
      have hgb : w.heap.size + 1 ≤ w3.heap.size := hsB
      have hsb := belb.size
      have ltb : w3.heap.size < wb.heap.size := blkb.lt
      refine hK _ _ trivial (fun hS1 => ?_)
      clear hK K
      try simp only [Act.put, List.setIfInBounds_toArray, List.set_cons_zero, List.set_cons_succ]
      skip
      refine any_one 0 (by kernel_rfl) rfl rfl (fun K hK => ?_)
      refine wp_make_u8 _ _ rfl (w.heap.size + 1) 64 64 64 rfl rfl rfl rfl (by omega) (by omega) (fun wc ownc gc => ?_)
      have blkc := ownc.blk
      have blkb' := blkb.grown gc (by simp)
      have blk0c := blk0b.grown gc (by simp)
      have belc := belb.grown gc hsb (fun k hk => by cases hk)
      have rdc : RdB wc w3.heap.size (some ⟨w2.heap.size, 0, none⟩) (keyOf key) := rdb.grown gc (by omega) (fun k hk => by cases hk)
      refine hK _ _ trivial (fun hS2 => ?_)
      clear hK K
      try simp only [Act.put, List.setIfInBounds_toArray, List.set_cons_zero, List.set_cons_succ]
      refine any_take 2 (v := ?_) rfl rfl (by kernel_rfl) (by kernel_rfl) (by kernel_rfl) (fun _ _ _ h => h) hS2 ?_ ?_
      rotate_left
      · (intro w' hSw; (try dsimp only at hSw); go_simp; first | done | with_reducible rfl)
      try simp only [Act.put, List.setIfInBounds_toArray, List.set_cons_zero, List.set_cons_succ]
      refine any_take 3 (v := ?_) rfl rfl (by kernel_rfl) (by kernel_rfl) (by kernel_rfl) (fun _ _ _ h => h) hS2 ?_ ?_
      rotate_left
      · (intro w' hSw; (try dsimp only at hSw); go_simp; first | done | with_reducible rfl)
      try simp only [Act.put, List.setIfInBounds_toArray, List.set_cons_zero, List.set_cons_succ]
      refine any_done (by kernel_rfl) (NoPanic.normal ?_)
      have neGI : wb.heap.size ≠ w3.heap.size := by omega
      have geI : w.heap.size + 1 ≤ wb.heap.size := by omega
      have geO : w.heap.size + 1 ≤ w3.heap.size := by omega
      have geI' : w3.heap.size ≤ wb.heap.size := by omega
      have geO' : w3.heap.size ≤ w3.heap.size := by omega
      have blkI : Blk wc wb.heap.size 5 (bcells (fillK (keyBlock key) 0x36 0)) := by rw [fillK_zero]; exact blkc
      have blkO : Blk wc w3.heap.size 5 (bcells (fillK (keyBlock key) 0x5c 0)) := by rw [fillK_zero]; exact blkb'
      clear ownb ownc gb gc blkb blk0b belb rdb hS0 hS1 hS2 BELA RDA BLKA hgb hsb blkc blkb'
      go_wp2_with fail
      go_loopw [8] (fun i wr => ∃ k : Nat, k ≤ 64 ∧ i = .int .i64 k ∧ Blk wr wb.heap.size 5 (bcells (fillK (keyBlock key) 0x36 k)) ∧ Blk wr w3.heap.size 5 (bcells (fillK (keyBlock key) 0x5c k)) ∧ Blk wr w.heap.size 64 (bcells z32) ∧ RdB wr w3.heap.size (some ⟨w2.heap.size, 0, none⟩) (keyOf key) ∧ Below w.heap.size w wr) (fun i _ => 64 - (intOf i).toNat)
      case atStart => exact ⟨0, by omega, rfl, blkI, blkO, blk0c, rdc, belc⟩
      case round =>
        clear blkI blkO blk0c rdc belc
        obtain ⟨k, hk, rfl, blkI, blkO, blk0, rdk, bel⟩ := hrel
        by_cases hlt : k < 64
        · have fi := blkI.frozen k
          have fo := blkO.frozen k
          have ci := bcell_at blkI k 0 (fillK_at _ _ HKL.out k hlt)
          have co := bcell_at blkO k 0 (fillK_at _ _ HKL.out k hlt)
          have keepR : ∀ (x y : Value), RdB ((wr.setCell ⟨wb.heap.size, k, none⟩ x).setCell ⟨w3.heap.size, k, none⟩ y) w3.heap.size (some ⟨w2.heap.size, 0, none⟩) (keyOf key) := fun x y => rdk.keep fun p hp => (World.cell?_of_block (Below.heap_setCell _ ⟨w3.heap.size, k, none⟩ y p.block (by show p.block ≠ w3.heap.size; omega))).trans (World.cell?_of_block (Below.heap_setCell wr ⟨wb.heap.size, k, none⟩ x p.block (by show p.block ≠ wb.heap.size; omega)))
          have KEEP := Lib.hid keepR
          have BI := Lib.hid blkI
          have BO := Lib.hid blkO
          have B0 := Lib.hid blk0
          have BEL := Lib.hid bel
          clear keepR blkI blkO blk0 bel
          by_cases hin : k < 32
          · have hin' : k < (keyOf key).length := by rw [HKN.out]; exact hin
            have hkb := keyBlock_in key k hin'
            obtain ⟨bb, off, hA, _, hc⟩ := rdk.at_ (k := k) (by rw [List.length_map]; exact hin')
            simp only [List.getElem_map, B] at hc
            generalize (keyOf key)[k] = y at hkb hc
            have x1 : bits .xor .u8 (y.toNat : Int) 54 = ((y ^^^ 0x36).toNat : Int) := u8_xor y 0x36
            have x2 : bits .xor .u8 (y.toNat : Int) 92 = ((y ^^^ 0x5c).toNat : Int) := u8_xor y 0x5c
            have s1 := Lib.hid (fillK_set (keyBlock key) 0x36 y HKL.out k hlt hkb)
            have s2 := Lib.hid (fillK_set (keyBlock key) 0x5c y HKL.out k hlt hkb)
            generalize y ^^^ 0x36 = z1 at x1 s1
            generalize y ^^^ 0x5c = z2 at x2 s2
            clear rdk hkb hin'
            (have hA' := Option.some.inj hA; injection hA' with h1 h2; subst h1 h2; rw [Nat.zero_add] at hc)
            go_wp2_with fail
            refine ⟨⟨k + 1, by omega, by simp, ?_, ?_, (B0.out.other (by omega) _).other (by omega) _, KEEP.out _ _, (BEL.out.setCell (p := ⟨wb.heap.size, k, none⟩) (by show w.heap.size ≤ wb.heap.size; omega) _).setCell (p := ⟨w3.heap.size, k, none⟩) (by show w.heap.size ≤ w3.heap.size; omega) _⟩, by simp [intOf]; omega⟩
            · rw [← s1.out, ← bcells_set]
              exact (BI.out.store k _).other neGI _
            · rw [← s2.out, ← bcells_set]
              exact (BO.out.other neGI.symm _).store k _
          · have hkb := keyBlock_out key k (by rw [HKN.out]; exact hin) hlt
            have s1 := Lib.hid (fillK_set (keyBlock key) 0x36 0 HKL.out k hlt hkb)
            have s2 := Lib.hid (fillK_set (keyBlock key) 0x5c 0 HKL.out k hlt hkb)
            clear rdk hkb
            go_wp2_with fail
            refine ⟨⟨k + 1, by omega, by simp, ?_, ?_, (B0.out.other (by omega) _).other (by omega) _, KEEP.out _ _, (BEL.out.setCell (p := ⟨wb.heap.size, k, none⟩) (by show w.heap.size ≤ wb.heap.size; omega) _).setCell (p := ⟨w3.heap.size, k, none⟩) (by show w.heap.size ≤ w3.heap.size; omega) _⟩, by simp [intOf]; omega⟩
            · rw [← s1.out, ← bcells_set]
              exact (BI.out.store k _).other neGI _
            · rw [← s2.out, ← bcells_set]
              exact (BO.out.other neGI.symm _).store k _
        · obtain rfl : k = 64 := by omega
          rw [fillK_all] at blkI blkO
          have hti := turnL_len key 0x36
          have hto := turnL_len key 0x5c
          have ownI : OwnB wr (w.heap.size + 1) (.slice (some ⟨wb.heap.size, 0, none⟩) 64 64) (turnL key 0x36) := by
            have h := OwnB.of_blk blkI geI (by rw [hti]; unfold maxLen; omega)
            rwa [hti] at h
          have hl1 : (turnL key 0x36).length + b.length ≤ 140737488355328 := by rw [hti]; omega
          have HL1 := Lib.hid hl1
          have HTI := Lib.hid hti
          have HTO := Lib.hid hto
          have OWNI := Lib.hid ownI
          have BLKO := Lib.hid blkO
          have B0 := Lib.hid blk0
          have BEL := Lib.hid bel
          have RDB' := Lib.hid (HR'.out.below (bel.mono hD))
          have hsr : w.heap.size + 1 ≤ wr.heap.size := blk0.lt
          clear rdk blkI blkO blk0 bel hti hto ownI hl1 hlt hk
          go_wp2_with (at_builtin; refine wpList_append_u8 rfl (.tmp 41) (.tmp 42) rfl (w.heap.size + 1) (.slice (some ⟨wb.heap.size, 0, none⟩) 64 64) (turnL key 0x36) rfl OWNI.out D A' n' c' b rfl Hn'.out RDB'.out HL1.out hsr ?_; intro v9 w9 own9 g9; obtain ⟨A9, n9, c9, rfl, hn9, _, _, rd9⟩ := own9.slice'; replace own9 := Lib.hid own9; replace g9 := Lib.hid g9; replace rd9 := Lib.hid rd9)
          have g9' : wr.grownBy w9 (some wb.heap.size) := g9.out
          have blkO9 := BLKO.out.grown g9' (fun e => neGI (by injection e))
          have blk09 := B0.out.grown g9' (fun e => by injection e with e; omega)
          have bel9 := BEL.out.grown g9' BEL.out.size (fun k hk => by injection hk with e; omega)
          have hs9 := bel9.size
          refine (refQuick_any A9 n9 c9 w9.heap.size (turnL key 0x36 ++ b) w9 hn9.out rd9.out (Nat.le_refl _) (by rw [hn9.out, List.length_append, HTI.out]; omega)).mono ?_
          rintro e w10 ⟨rfl, b10⟩
          have blkO10 := blkO9.below b10 blkO9.lt
          have blk010 := blk09.below b10 blk09.lt
          have bel10 := bel9.trans (b10.mono hs9)
          have hs10 := bel10.size
          generalize hM : sha (turnL key 0x36 ++ b) = M
          have HM := Lib.hid hM
          have hml : M.length = 32 := by rw [← hM]; exact sha_len _
          have HML := Lib.hid hml
          have BLKO10 := Lib.hid blkO10
          have B010 := Lib.hid blk010
          have BEL10 := Lib.hid bel10
          have blkn := Blk.new w10 64 (bcells z32)
          have lt10 := blkO10.lt
          have lt010 := blk010.lt
          have hmac : sha (turnL key 0x5c ++ M) = macL key b := by unfold macL; rw [hM]
          have HMAC := Lib.hid hmac
          clear own9 g9 rd9 g9' blkO9 blk09 bel9 b10 blkO10 blk010 bel10 hM hml hmac OWNI HL1 BLKO B0 BEL RDB'
          go_upto_region 14 with (first
            | (refine wpList_alloc_row rfl 64 rfl (bcells z32) zero32 ?_)
            | (refine wpList_store_row rfl 64 _ _ rfl w10.heap.size 64 (bcells z32) (bcells M) rfl rfl blkn (by rw [bcells_size, bcells_size, HML.out, z32_len]) (bcells_one _) (by rw [bcells_size, HML.out, size32]) ?_; intro w11 blk11 g11 sz11; replace sz11 := Lib.hid sz11; replace g11 := Lib.hid g11; replace blk11 := Lib.hid blk11))
          have blkO11 : Blk w11 w3.heap.size 5 (bcells (turnL key 0x5c)) := (BLKO10.out.alloc _).grown g11.out (by simp; omega)
          have blk011 : Blk w11 w.heap.size 64 (bcells z32) := (B010.out.alloc _).grown g11.out (by simp; omega)
          have bel11 : Below w.heap.size w w11 := (BEL10.out.alloc hs10 _).grown g11.out (by simp; omega) (fun k hk => by injection hk with e; omega)
          have own11 : OwnB w11 (w.heap.size + 1) (.slice (some ⟨w3.heap.size, 0, none⟩) 64 64) (turnL key 0x5c) := by
            have h := OwnB.of_blk blkO11 geO (by rw [HTO.out]; unfold maxLen; omega)
            rwa [HTO.out] at h
          have rd11 : RdB w11 w11.heap.size (some ⟨w10.heap.size, 0, none⟩) M := blk11.out.rdB
          have hl2 : (turnL key 0x5c).length + M.length ≤ 140737488355328 := by rw [HTO.out, HML.out]; omega
          have HL2 := Lib.hid hl2
          have OWN11 := Lib.hid own11
          have RD11 := Lib.hid rd11
          have B011 := Lib.hid blk011
          have BEL11 := Lib.hid bel11
          have hs11 : w.heap.size + 1 ≤ w11.heap.size := blk011.lt
          clear blkO11 blk011 bel11 own11 rd11 hl2 blkn BLKO10 B010 BEL10 g11 sz11
          go_wp2_with (at_builtin; refine wpList_append_u8 rfl (.tmp 45) (.tmp 46) rfl (w.heap.size + 1) (.slice (some ⟨w3.heap.size, 0, none⟩) 64 64) (turnL key 0x5c) rfl OWN11.out w11.heap.size (some ⟨w10.heap.size, 0, none⟩) 32 32 M rfl HML.out.symm RD11.out HL2.out hs11 ?_; intro v12 w12 own12 g12; obtain ⟨A12, n12, c12, rfl, hn12, _, _, rd12⟩ := own12.slice'; replace own12 := Lib.hid own12; replace g12 := Lib.hid g12; replace rd12 := Lib.hid rd12)
          have g12' : w11.grownBy w12 (some w3.heap.size) := g12.out
          have blk012 := B011.out.grown g12' (fun e => by injection e with e; omega)
          have bel12 := BEL11.out.grown g12' BEL11.out.size (fun k hk => by injection hk with e; omega)
          have hs12 := bel12.size
          refine (refQuick_any A12 n12 c12 w12.heap.size (turnL key 0x5c ++ M) w12 hn12.out rd12.out (Nat.le_refl _) (by rw [hn12.out, List.length_append, HTO.out, HML.out]; omega)).mono ?_
          rintro e w13 ⟨rfl, b13⟩
          rw [HMAC.out]
          have hml13 := macL_len key b
          have HML13 := Lib.hid hml13
          have blk013 := blk012.below b13 blk012.lt
          have bel13 := Lib.hid (bel12.trans (b13.mono hs12))
          clear own12 g12 rd12 g12' blk012 bel12 b13 hml13 OWN11 RD11 B011 BEL11 HL2
          go_wp2_with (refine wpList_store_row rfl 64 _ _ rfl w.heap.size 64 (bcells z32) (bcells (macL key b)) rfl rfl blk013 (by rw [bcells_size, bcells_size, HML13.out, z32_len]) (bcells_one _) (by rw [bcells_size, HML13.out, size32]) ?_; intro w14 blk14 g14 sz14)
          have hl := load_row w14 64 w.heap.size 64 (bcells (macL key b)) blk14 32 5 Try.underlying64 (by rw [bcells_size, HML13.out, size32])
          refine bodyPost_ret (v := .agg (bcells (macL key b))) (by simp [results, Try.results50, Act.put, asAddr, hl]) rfl ⟨rfl, bel13.out.grown g14 bel13.out.size (fun k hk => by injection hk with e; omega)⟩
  · have hko : keyOf key = key := by unfold keyOf; rw [if_neg (by rw [← Hn.out]; exact h64)]
    have hkn : (keyOf key).length = n := by rw [hko]; exact Hn.out.symm
    have rd3 : RdB w1 w1.heap.size A (keyOf key) := by rw [hko]; exact (HR.out.below (BEL0.out.mono hD)).mono (by omega)
    clear hko
    go_upto_region 4 with fail
    have hkl := keyBlock_len key
    have hK64 := keyOf_len key
    have hKn := hkn
    have HKN := Lib.hid hKn
    have HKL := Lib.hid hkl
    have hn64 : n ≤ 64 := by omega
    have BELA := Lib.hid BEL0.out
    have RDA := Lib.hid rd3
    have BLKA := Lib.hid BLK0.out
    have hsA := BELA.out.size
    have hsB : w.heap.size + 1 ≤ w1.heap.size := BLKA.out.lt
    clear hkl hK64 hKn
    refine any_begin (fun _ => True) (by kernel_rfl) trivial (fun hS0 => ?_)
    refine any_two 0 1 (by kernel_rfl) rfl rfl rfl rfl (fun K hK => ?_) (fun K hK => ?_)
    ·
      refine wp_make_u8 _ _ rfl (w.heap.size + 1) 64 64 64 rfl rfl rfl rfl (by omega) (by simp; omega) (fun wb ownb gb => ?_)
      have blkb := ownb.blk
      have blk0b := Blk.grown (w := w1.drew) BLKA.out gb (by simp)
      have belb := BELA.out.drew.grown gb (by simpa using hsA) (fun k hk => by cases hk)
      have rdb : RdB wb w1.heap.size A (keyOf key) := RdB.grown (w := w1.drew) RDA.out gb (by simp) (fun k hk => by cases hk)
      have hgb : w.heap.size + 1 ≤ w1.heap.size := hsB
      have hsb := belb.size
      have ltb : w1.heap.size < wb.heap.size := blkb.lt
      refine hK _ _ trivial (fun hS1 => ?_)
      clear hK K
      try simp only [Act.put, List.setIfInBounds_toArray, List.set_cons_zero, List.set_cons_succ]
      refine any_take 2 (v := ?_) rfl rfl (by kernel_rfl) (by kernel_rfl) (by kernel_rfl) (fun _ _ _ h => h) hS1 ?_ ?_
      rotate_left
      · (intro w' hSw; (try dsimp only at hSw); go_simp; first | done | with_reducible rfl)
      try simp only [Act.put, List.setIfInBounds_toArray, List.set_cons_zero, List.set_cons_succ]
      refine any_one 1 (by kernel_rfl) rfl rfl (fun K hK => ?_)
      refine wp_make_u8 _ _ rfl (w.heap.size + 1) 64 64 64 rfl rfl rfl rfl (by omega) (by omega) (fun wc ownc gc => ?_)
      have blkc := ownc.blk
      have blkb' := blkb.grown gc (by simp)
      have blk0c := blk0b.grown gc (by simp)
      have belc := belb.grown gc hsb (fun k hk => by cases hk)
      have rdc : RdB wc w1.heap.size A (keyOf key) := rdb.grown gc (by omega) (fun k hk => by cases hk)
      refine hK _ _ trivial (fun hS2 => ?_)
      clear hK K
      try simp only [Act.put, List.setIfInBounds_toArray, List.set_cons_zero, List.set_cons_succ]
      refine any_take 3 (v := ?_) rfl rfl (by kernel_rfl) (by kernel_rfl) (by kernel_rfl) (fun _ _ _ h => h) hS2 ?_ ?_
      rotate_left
      · (intro w' hSw; (try dsimp only at hSw); go_simp; first | done | with_reducible rfl)
      try simp only [Act.put, List.setIfInBounds_toArray, List.set_cons_zero, List.set_cons_succ]
      refine any_done (by kernel_rfl) (NoPanic.normal ?_)
      have neGI : w1.heap.size ≠ wb.heap.size := by omega
      have geI : w.heap.size + 1 ≤ w1.heap.size := by omega
      have geO : w.heap.size + 1 ≤ wb.heap.size := by omega
      have geI' : w1.heap.size ≤ w1.heap.size := by omega
      have geO' : w1.heap.size ≤ wb.heap.size := by omega
      have blkI : Blk wc w1.heap.size 5 (bcells (fillK (keyBlock key) 0x36 0)) := by rw [fillK_zero]; exact blkb'
      have blkO : Blk wc wb.heap.size 5 (bcells (fillK (keyBlock key) 0x5c 0)) := by rw [fillK_zero]; exact blkc
      clear ownb ownc gb gc blkb blk0b belb rdb hS0 hS1 hS2 BELA RDA BLKA hgb hsb blkc blkb'
      go_wp2_with fail
      go_loopw [8] (fun i wr => ∃ k : Nat, k ≤ 64 ∧ i = .int .i64 k ∧ Blk wr w1.heap.size 5 (bcells (fillK (keyBlock key) 0x36 k)) ∧ Blk wr wb.heap.size 5 (bcells (fillK (keyBlock key) 0x5c k)) ∧ Blk wr w.heap.size 64 (bcells z32) ∧ RdB wr w1.heap.size A (keyOf key) ∧ Below w.heap.size w wr) (fun i _ => 64 - (intOf i).toNat)
      case atStart => exact ⟨0, by omega, rfl, blkI, blkO, blk0c, rdc, belc⟩
      case round =>
        clear blkI blkO blk0c rdc belc
        obtain ⟨k, hk, rfl, blkI, blkO, blk0, rdk, bel⟩ := hrel
        by_cases hlt : k < 64
        · have fi := blkI.frozen k
          have fo := blkO.frozen k
          have ci := bcell_at blkI k 0 (fillK_at _ _ HKL.out k hlt)
          have co := bcell_at blkO k 0 (fillK_at _ _ HKL.out k hlt)
          have keepR : ∀ (x y : Value), RdB ((wr.setCell ⟨w1.heap.size, k, none⟩ x).setCell ⟨wb.heap.size, k, none⟩ y) w1.heap.size A (keyOf key) := fun x y => rdk.keep fun p hp => (World.cell?_of_block (Below.heap_setCell _ ⟨wb.heap.size, k, none⟩ y p.block (by show p.block ≠ wb.heap.size; omega))).trans (World.cell?_of_block (Below.heap_setCell wr ⟨w1.heap.size, k, none⟩ x p.block (by show p.block ≠ w1.heap.size; omega)))
          have KEEP := Lib.hid keepR
          have BI := Lib.hid blkI
          have BO := Lib.hid blkO
          have B0 := Lib.hid blk0
          have BEL := Lib.hid bel
          clear keepR blkI blkO blk0 bel
          by_cases hin : k < n
          · have hin' : k < (keyOf key).length := by rw [HKN.out]; exact hin
            have hkb := keyBlock_in key k hin'
            obtain ⟨bb, off, hA, _, hc⟩ := rdk.at_ (k := k) (by rw [List.length_map]; exact hin')
            simp only [List.getElem_map, B] at hc
            generalize (keyOf key)[k] = y at hkb hc
            have x1 : bits .xor .u8 (y.toNat : Int) 54 = ((y ^^^ 0x36).toNat : Int) := u8_xor y 0x36
            have x2 : bits .xor .u8 (y.toNat : Int) 92 = ((y ^^^ 0x5c).toNat : Int) := u8_xor y 0x5c
            have s1 := Lib.hid (fillK_set (keyBlock key) 0x36 y HKL.out k hlt hkb)
            have s2 := Lib.hid (fillK_set (keyBlock key) 0x5c y HKL.out k hlt hkb)
            generalize y ^^^ 0x36 = z1 at x1 s1
            generalize y ^^^ 0x5c = z2 at x2 s2
            clear rdk hkb hin'
            subst hA
            go_wp2_with fail
            refine ⟨⟨k + 1, by omega, by simp, ?_, ?_, (B0.out.other (by omega) _).other (by omega) _, KEEP.out _ _, (BEL.out.setCell (p := ⟨w1.heap.size, k, none⟩) (by show w.heap.size ≤ w1.heap.size; omega) _).setCell (p := ⟨wb.heap.size, k, none⟩) (by show w.heap.size ≤ wb.heap.size; omega) _⟩, by simp [intOf]; omega⟩
            · rw [← s1.out, ← bcells_set]
              exact (BI.out.store k _).other neGI _
            · rw [← s2.out, ← bcells_set]
              exact (BO.out.other neGI.symm _).store k _
          · have hkb := keyBlock_out key k (by rw [HKN.out]; exact hin) hlt
            have s1 := Lib.hid (fillK_set (keyBlock key) 0x36 0 HKL.out k hlt hkb)
            have s2 := Lib.hid (fillK_set (keyBlock key) 0x5c 0 HKL.out k hlt hkb)
            clear rdk hkb
            go_wp2_with fail
            refine ⟨⟨k + 1, by omega, by simp, ?_, ?_, (B0.out.other (by omega) _).other (by omega) _, KEEP.out _ _, (BEL.out.setCell (p := ⟨w1.heap.size, k, none⟩) (by show w.heap.size ≤ w1.heap.size; omega) _).setCell (p := ⟨wb.heap.size, k, none⟩) (by show w.heap.size ≤ wb.heap.size; omega) _⟩, by simp [intOf]; omega⟩
            · rw [← s1.out, ← bcells_set]
              exact (BI.out.store k _).other neGI _
            · rw [← s2.out, ← bcells_set]
              exact (BO.out.other neGI.symm _).store k _
        · obtain rfl : k = 64 := by omega
          rw [fillK_all] at blkI blkO
          have hti := turnL_len key 0x36
          have hto := turnL_len key 0x5c
          have ownI : OwnB wr (w.heap.size + 1) (.slice (some ⟨w1.heap.size, 0, none⟩) 64 64) (turnL key 0x36) := by
            have h := OwnB.of_blk blkI geI (by rw [hti]; unfold maxLen; omega)
            rwa [hti] at h
          have hl1 : (turnL key 0x36).length + b.length ≤ 140737488355328 := by rw [hti]; omega
          have HL1 := Lib.hid hl1
          have HTI := Lib.hid hti
          have HTO := Lib.hid hto
          have OWNI := Lib.hid ownI
          have BLKO := Lib.hid blkO
          have B0 := Lib.hid blk0
          have BEL := Lib.hid bel
          have RDB' := Lib.hid (HR'.out.below (bel.mono hD))
          have hsr : w.heap.size + 1 ≤ wr.heap.size := blk0.lt
          clear rdk blkI blkO blk0 bel hti hto ownI hl1 hlt hk
          go_wp2_with (at_builtin; refine wpList_append_u8 rfl (.tmp 41) (.tmp 42) rfl (w.heap.size + 1) (.slice (some ⟨w1.heap.size, 0, none⟩) 64 64) (turnL key 0x36) rfl OWNI.out D A' n' c' b rfl Hn'.out RDB'.out HL1.out hsr ?_; intro v9 w9 own9 g9; obtain ⟨A9, n9, c9, rfl, hn9, _, _, rd9⟩ := own9.slice'; replace own9 := Lib.hid own9; replace g9 := Lib.hid g9; replace rd9 := Lib.hid rd9)
          have g9' : wr.grownBy w9 (some w1.heap.size) := g9.out
          have blkO9 := BLKO.out.grown g9' (fun e => neGI (by injection e))
          have blk09 := B0.out.grown g9' (fun e => by injection e with e; omega)
          have bel9 := BEL.out.grown g9' BEL.out.size (fun k hk => by injection hk with e; omega)
          have hs9 := bel9.size
          refine (refQuick_any A9 n9 c9 w9.heap.size (turnL key 0x36 ++ b) w9 hn9.out rd9.out (Nat.le_refl _) (by rw [hn9.out, List.length_append, HTI.out]; omega)).mono ?_
          rintro e w10 ⟨rfl, b10⟩
          have blkO10 := blkO9.below b10 blkO9.lt
          have blk010 := blk09.below b10 blk09.lt
          have bel10 := bel9.trans (b10.mono hs9)
          have hs10 := bel10.size
          generalize hM : sha (turnL key 0x36 ++ b) = M
          have HM := Lib.hid hM
          have hml : M.length = 32 := by rw [← hM]; exact sha_len _
          have HML := Lib.hid hml
          have BLKO10 := Lib.hid blkO10
          have B010 := Lib.hid blk010
          have BEL10 := Lib.hid bel10
          have blkn := Blk.new w10 64 (bcells z32)
          have lt10 := blkO10.lt
          have lt010 := blk010.lt
          have hmac : sha (turnL key 0x5c ++ M) = macL key b := by unfold macL; rw [hM]
          have HMAC := Lib.hid hmac
          clear own9 g9 rd9 g9' blkO9 blk09 bel9 b10 blkO10 blk010 bel10 hM hml hmac OWNI HL1 BLKO B0 BEL RDB'
          go_upto_region 14 with (first
            | (refine wpList_alloc_row rfl 64 rfl (bcells z32) zero32 ?_)
            | (refine wpList_store_row rfl 64 _ _ rfl w10.heap.size 64 (bcells z32) (bcells M) rfl rfl blkn (by rw [bcells_size, bcells_size, HML.out, z32_len]) (bcells_one _) (by rw [bcells_size, HML.out, size32]) ?_; intro w11 blk11 g11 sz11; replace sz11 := Lib.hid sz11; replace g11 := Lib.hid g11; replace blk11 := Lib.hid blk11))
          have blkO11 : Blk w11 wb.heap.size 5 (bcells (turnL key 0x5c)) := (BLKO10.out.alloc _).grown g11.out (by simp; omega)
          have blk011 : Blk w11 w.heap.size 64 (bcells z32) := (B010.out.alloc _).grown g11.out (by simp; omega)
          have bel11 : Below w.heap.size w w11 := (BEL10.out.alloc hs10 _).grown g11.out (by simp; omega) (fun k hk => by injection hk with e; omega)
          have own11 : OwnB w11 (w.heap.size + 1) (.slice (some ⟨wb.heap.size, 0, none⟩) 64 64) (turnL key 0x5c) := by
            have h := OwnB.of_blk blkO11 geO (by rw [HTO.out]; unfold maxLen; omega)
            rwa [HTO.out] at h
          have rd11 : RdB w11 w11.heap.size (some ⟨w10.heap.size, 0, none⟩) M := blk11.out.rdB
          have hl2 : (turnL key 0x5c).length + M.length ≤ 140737488355328 := by rw [HTO.out, HML.out]; omega
          have HL2 := Lib.hid hl2
          have OWN11 := Lib.hid own11
          have RD11 := Lib.hid rd11
          have B011 := Lib.hid blk011
          have BEL11 := Lib.hid bel11
          have hs11 : w.heap.size + 1 ≤ w11.heap.size := blk011.lt
          clear blkO11 blk011 bel11 own11 rd11 hl2 blkn BLKO10 B010 BEL10 g11 sz11
          go_wp2_with (at_builtin; refine wpList_append_u8 rfl (.tmp 45) (.tmp 46) rfl (w.heap.size + 1) (.slice (some ⟨wb.heap.size, 0, none⟩) 64 64) (turnL key 0x5c) rfl OWN11.out w11.heap.size (some ⟨w10.heap.size, 0, none⟩) 32 32 M rfl HML.out.symm RD11.out HL2.out hs11 ?_; intro v12 w12 own12 g12; obtain ⟨A12, n12, c12, rfl, hn12, _, _, rd12⟩ := own12.slice'; replace own12 := Lib.hid own12; replace g12 := Lib.hid g12; replace rd12 := Lib.hid rd12)
          have g12' : w11.grownBy w12 (some wb.heap.size) := g12.out
          have blk012 := B011.out.grown g12' (fun e => by injection e with e; omega)
          have bel12 := BEL11.out.grown g12' BEL11.out.size (fun k hk => by injection hk with e; omega)
          have hs12 := bel12.size
          refine (refQuick_any A12 n12 c12 w12.heap.size (turnL key 0x5c ++ M) w12 hn12.out rd12.out (Nat.le_refl _) (by rw [hn12.out, List.length_append, HTO.out, HML.out]; omega)).mono ?_
          rintro e w13 ⟨rfl, b13⟩
          rw [HMAC.out]
          have hml13 := macL_len key b
          have HML13 := Lib.hid hml13
          have blk013 := blk012.below b13 blk012.lt
          have bel13 := Lib.hid (bel12.trans (b13.mono hs12))
          clear own12 g12 rd12 g12' blk012 bel12 b13 hml13 OWN11 RD11 B011 BEL11 HL2
          go_wp2_with (refine wpList_store_row rfl 64 _ _ rfl w.heap.size 64 (bcells z32) (bcells (macL key b)) rfl rfl blk013 (by rw [bcells_size, bcells_size, HML13.out, z32_len]) (bcells_one _) (by rw [bcells_size, HML13.out, size32]) ?_; intro w14 blk14 g14 sz14)
          have hl := load_row w14 64 w.heap.size 64 (bcells (macL key b)) blk14 32 5 Try.underlying64 (by rw [bcells_size, HML13.out, size32])
          refine bodyPost_ret (v := .agg (bcells (macL key b))) (by simp [results, Try.results50, Act.put, asAddr, hl]) rfl ⟨rfl, bel13.out.grown g14 bel13.out.size (fun k hk => by injection hk with e; omega)⟩
    ·
      refine wp_make_u8 _ _ rfl (w.heap.size + 1) 64 64 64 rfl rfl rfl rfl (by omega) (by simp; omega) (fun wb ownb gb => ?_)
      have blkb := ownb.blk
      have blk0b := Blk.grown (w := w1.drew) BLKA.out gb (by simp)
      have belb := BELA.out.drew.grown gb (by simpa using hsA) (fun k hk => by cases hk)
      have rdb : RdB wb w1.heap.size A (keyOf key) := RdB.grown (w := w1.drew) RDA.out gb (by simp) (fun k hk => by cases hk)
      have hgb : w.heap.size + 1 ≤ w1.heap.size := hsB
      have hsb := belb.size
      have ltb : w1.heap.size < wb.heap.size := blkb.lt
      refine hK _ _ trivial (fun hS1 => ?_)
      clear hK K
      try simp only [Act.put, List.setIfInBounds_toArray, List.set_cons_zero, List.set_cons_succ]
      skip
      refine any_one 0 (by kernel_rfl) rfl rfl (fun K hK => ?_)
      refine wp_make_u8 _ _ rfl (w.heap.size + 1) 64 64 64 rfl rfl rfl rfl (by omega) (by omega) (fun wc ownc gc => ?_)
      have blkc := ownc.blk
      have blkb' := blkb.grown gc (by simp)
      have blk0c := blk0b.grown gc (by simp)
      have belc := belb.grown gc hsb (fun k hk => by cases hk)
      have rdc : RdB wc w1.heap.size A (keyOf key) := rdb.grown gc (by omega) (fun k hk => by cases hk)
      refine hK _ _ trivial (fun hS2 => ?_)
      clear hK K
      try simp only [Act.put, List.setIfInBounds_toArray, List.set_cons_zero, List.set_cons_succ]
      refine any_take 2 (v := ?_) rfl rfl (by kernel_rfl) (by kernel_rfl) (by kernel_rfl) (fun _ _ _ h => h) hS2 ?_ ?_
      rotate_left
      · (intro w' hSw; (try dsimp only at hSw); go_simp; first | done | with_reducible rfl)
      try simp only [Act.put, List.setIfInBounds_toArray, List.set_cons_zero, List.set_cons_succ]
      refine any_take 3 (v := ?_) rfl rfl (by kernel_rfl) (by kernel_rfl) (by kernel_rfl) (fun _ _ _ h => h) hS2 ?_ ?_
      rotate_left
      · (intro w' hSw; (try dsimp only at hSw); go_simp; first | done | with_reducible rfl)
      try simp only [Act.put, List.setIfInBounds_toArray, List.set_cons_zero, List.set_cons_succ]
      refine any_done (by kernel_rfl) (NoPanic.normal ?_)
      have neGI : wb.heap.size ≠ w1.heap.size := by omega
      have geI : w.heap.size + 1 ≤ wb.heap.size := by omega
      have geO : w.heap.size + 1 ≤ w1.heap.size := by omega
      have geI' : w1.heap.size ≤ wb.heap.size := by omega
      have geO' : w1.heap.size ≤ w1.heap.size := by omega
      have blkI : Blk wc wb.heap.size 5 (bcells (fillK (keyBlock key) 0x36 0)) := by rw [fillK_zero]; exact blkc
      have blkO : Blk wc w1.heap.size 5 (bcells (fillK (keyBlock key) 0x5c 0)) := by rw [fillK_zero]; exact blkb'
      clear ownb ownc gb gc blkb blk0b belb rdb hS0 hS1 hS2 BELA RDA BLKA hgb hsb blkc blkb'
      go_wp2_with fail
      go_loopw [8] (fun i wr => ∃ k : Nat, k ≤ 64 ∧ i = .int .i64 k ∧ Blk wr wb.heap.size 5 (bcells (fillK (keyBlock key) 0x36 k)) ∧ Blk wr w1.heap.size 5 (bcells (fillK (keyBlock key) 0x5c k)) ∧ Blk wr w.heap.size 64 (bcells z32) ∧ RdB wr w1.heap.size A (keyOf key) ∧ Below w.heap.size w wr) (fun i _ => 64 - (intOf i).toNat)
      case atStart => exact ⟨0, by omega, rfl, blkI, blkO, blk0c, rdc, belc⟩
      case round =>
        clear blkI blkO blk0c rdc belc
        obtain ⟨k, hk, rfl, blkI, blkO, blk0, rdk, bel⟩ := hrel
        by_cases hlt : k < 64
        · have fi := blkI.frozen k
          have fo := blkO.frozen k
          have ci := bcell_at blkI k 0 (fillK_at _ _ HKL.out k hlt)
          have co := bcell_at blkO k 0 (fillK_at _ _ HKL.out k hlt)
          have keepR : ∀ (x y : Value), RdB ((wr.setCell ⟨wb.heap.size, k, none⟩ x).setCell ⟨w1.heap.size, k, none⟩ y) w1.heap.size A (keyOf key) := fun x y => rdk.keep fun p hp => (World.cell?_of_block (Below.heap_setCell _ ⟨w1.heap.size, k, none⟩ y p.block (by show p.block ≠ w1.heap.size; omega))).trans (World.cell?_of_block (Below.heap_setCell wr ⟨wb.heap.size, k, none⟩ x p.block (by show p.block ≠ wb.heap.size; omega)))
          have KEEP := Lib.hid keepR
          have BI := Lib.hid blkI
          have BO := Lib.hid blkO
          have B0 := Lib.hid blk0
          have BEL := Lib.hid bel
          clear keepR blkI blkO blk0 bel
          by_cases hin : k < n
          · have hin' : k < (keyOf key).length := by rw [HKN.out]; exact hin
            have hkb := keyBlock_in key k hin'
            obtain ⟨bb, off, hA, _, hc⟩ := rdk.at_ (k := k) (by rw [List.length_map]; exact hin')
            simp only [List.getElem_map, B] at hc
            generalize (keyOf key)[k] = y at hkb hc
            have x1 : bits .xor .u8 (y.toNat : Int) 54 = ((y ^^^ 0x36).toNat : Int) := u8_xor y 0x36
            have x2 : bits .xor .u8 (y.toNat : Int) 92 = ((y ^^^ 0x5c).toNat : Int) := u8_xor y 0x5c
            have s1 := Lib.hid (fillK_set (keyBlock key) 0x36 y HKL.out k hlt hkb)
            have s2 := Lib.hid (fillK_set (keyBlock key) 0x5c y HKL.out k hlt hkb)
            generalize y ^^^ 0x36 = z1 at x1 s1
            generalize y ^^^ 0x5c = z2 at x2 s2
            clear rdk hkb hin'
            subst hA
            go_wp2_with fail
            refine ⟨⟨k + 1, by omega, by simp, ?_, ?_, (B0.out.other (by omega) _).other (by omega) _, KEEP.out _ _, (BEL.out.setCell (p := ⟨wb.heap.size, k, none⟩) (by show w.heap.size ≤ wb.heap.size; omega) _).setCell (p := ⟨w1.heap.size, k, none⟩) (by show w.heap.size ≤ w1.heap.size; omega) _⟩, by simp [intOf]; omega⟩
            · rw [← s1.out, ← bcells_set]
              exact (BI.out.store k _).other neGI _
            · rw [← s2.out, ← bcells_set]
              exact (BO.out.other neGI.symm _).store k _
          · have hkb := keyBlock_out key k (by rw [HKN.out]; exact hin) hlt
            have s1 := Lib.hid (fillK_set (keyBlock key) 0x36 0 HKL.out k hlt hkb)
            have s2 := Lib.hid (fillK_set (keyBlock key) 0x5c 0 HKL.out k hlt hkb)
            clear rdk hkb
            go_wp2_with fail
            refine ⟨⟨k + 1, by omega, by simp, ?_, ?_, (B0.out.other (by omega) _).other (by omega) _, KEEP.out _ _, (BEL.out.setCell (p := ⟨wb.heap.size, k, none⟩) (by show w.heap.size ≤ wb.heap.size; omega) _).setCell (p := ⟨w1.heap.size, k, none⟩) (by show w.heap.size ≤ w1.heap.size; omega) _⟩, by simp [intOf]; omega⟩
            · rw [← s1.out, ← bcells_set]
              exact (BI.out.store k _).other neGI _
            · rw [← s2.out, ← bcells_set]
              exact (BO.out.other neGI.symm _).store k _
        · obtain rfl : k = 64 := by omega
          rw [fillK_all] at blkI blkO
          have hti := turnL_len key 0x36
          have hto := turnL_len key 0x5c
          have ownI : OwnB wr (w.heap.size + 1) (.slice (some ⟨wb.heap.size, 0, none⟩) 64 64) (turnL key 0x36) := by
            have h := OwnB.of_blk blkI geI (by rw [hti]; unfold maxLen; omega)
            rwa [hti] at h
          have hl1 : (turnL key 0x36).length + b.length ≤ 140737488355328 := by rw [hti]; omega
          have HL1 := Lib.hid hl1
          have HTI := Lib.hid hti
          have HTO := Lib.hid hto
          have OWNI := Lib.hid ownI
          have BLKO := Lib.hid blkO
          have B0 := Lib.hid blk0
          have BEL := Lib.hid bel
          have RDB' := Lib.hid (HR'.out.below (bel.mono hD))
          have hsr : w.heap.size + 1 ≤ wr.heap.size := blk0.lt
          clear rdk blkI blkO blk0 bel hti hto ownI hl1 hlt hk
          go_wp2_with (at_builtin; refine wpList_append_u8 rfl (.tmp 41) (.tmp 42) rfl (w.heap.size + 1) (.slice (some ⟨wb.heap.size, 0, none⟩) 64 64) (turnL key 0x36) rfl OWNI.out D A' n' c' b rfl Hn'.out RDB'.out HL1.out hsr ?_; intro v9 w9 own9 g9; obtain ⟨A9, n9, c9, rfl, hn9, _, _, rd9⟩ := own9.slice'; replace own9 := Lib.hid own9; replace g9 := Lib.hid g9; replace rd9 := Lib.hid rd9)
          have g9' : wr.grownBy w9 (some wb.heap.size) := g9.out
          have blkO9 := BLKO.out.grown g9' (fun e => neGI (by injection e))
          have blk09 := B0.out.grown g9' (fun e => by injection e with e; omega)
          have bel9 := BEL.out.grown g9' BEL.out.size (fun k hk => by injection hk with e; omega)
          have hs9 := bel9.size
          refine (refQuick_any A9 n9 c9 w9.heap.size (turnL key 0x36 ++ b) w9 hn9.out rd9.out (Nat.le_refl _) (by rw [hn9.out, List.length_append, HTI.out]; omega)).mono ?_
          rintro e w10 ⟨rfl, b10⟩
          have blkO10 := blkO9.below b10 blkO9.lt
          have blk010 := blk09.below b10 blk09.lt
          have bel10 := bel9.trans (b10.mono hs9)
          have hs10 := bel10.size
          generalize hM : sha (turnL key 0x36 ++ b) = M
          have HM := Lib.hid hM
          have hml : M.length = 32 := by rw [← hM]; exact sha_len _
          have HML := Lib.hid hml
          have BLKO10 := Lib.hid blkO10
          have B010 := Lib.hid blk010
          have BEL10 := Lib.hid bel10
          have blkn := Blk.new w10 64 (bcells z32)
          have lt10 := blkO10.lt
          have lt010 := blk010.lt
          have hmac : sha (turnL key 0x5c ++ M) = macL key b := by unfold macL; rw [hM]
          have HMAC := Lib.hid hmac
          clear own9 g9 rd9 g9' blkO9 blk09 bel9 b10 blkO10 blk010 bel10 hM hml hmac OWNI HL1 BLKO B0 BEL RDB'
          go_upto_region 14 with (first
            | (refine wpList_alloc_row rfl 64 rfl (bcells z32) zero32 ?_)
            | (refine wpList_store_row rfl 64 _ _ rfl w10.heap.size 64 (bcells z32) (bcells M) rfl rfl blkn (by rw [bcells_size, bcells_size, HML.out, z32_len]) (bcells_one _) (by rw [bcells_size, HML.out, size32]) ?_; intro w11 blk11 g11 sz11; replace sz11 := Lib.hid sz11; replace g11 := Lib.hid g11; replace blk11 := Lib.hid blk11))
          have blkO11 : Blk w11 w1.heap.size 5 (bcells (turnL key 0x5c)) := (BLKO10.out.alloc _).grown g11.out (by simp; omega)
          have blk011 : Blk w11 w.heap.size 64 (bcells z32) := (B010.out.alloc _).grown g11.out (by simp; omega)
          have bel11 : Below w.heap.size w w11 := (BEL10.out.alloc hs10 _).grown g11.out (by simp; omega) (fun k hk => by injection hk with e; omega)
          have own11 : OwnB w11 (w.heap.size + 1) (.slice (some ⟨w1.heap.size, 0, none⟩) 64 64) (turnL key 0x5c) := by
            have h := OwnB.of_blk blkO11 geO (by rw [HTO.out]; unfold maxLen; omega)
            rwa [HTO.out] at h
          have rd11 : RdB w11 w11.heap.size (some ⟨w10.heap.size, 0, none⟩) M := blk11.out.rdB
          have hl2 : (turnL key 0x5c).length + M.length ≤ 140737488355328 := by rw [HTO.out, HML.out]; omega
          have HL2 := Lib.hid hl2
          have OWN11 := Lib.hid own11
          have RD11 := Lib.hid rd11
          have B011 := Lib.hid blk011
          have BEL11 := Lib.hid bel11
          have hs11 : w.heap.size + 1 ≤ w11.heap.size := blk011.lt
          clear blkO11 blk011 bel11 own11 rd11 hl2 blkn BLKO10 B010 BEL10 g11 sz11
          go_wp2_with (at_builtin; refine wpList_append_u8 rfl (.tmp 45) (.tmp 46) rfl (w.heap.size + 1) (.slice (some ⟨w1.heap.size, 0, none⟩) 64 64) (turnL key 0x5c) rfl OWN11.out w11.heap.size (some ⟨w10.heap.size, 0, none⟩) 32 32 M rfl HML.out.symm RD11.out HL2.out hs11 ?_; intro v12 w12 own12 g12; obtain ⟨A12, n12, c12, rfl, hn12, _, _, rd12⟩ := own12.slice'; replace own12 := Lib.hid own12; replace g12 := Lib.hid g12; replace rd12 := Lib.hid rd12)
          have g12' : w11.grownBy w12 (some w1.heap.size) := g12.out
          have blk012 := B011.out.grown g12' (fun e => by injection e with e; omega)
          have bel12 := BEL11.out.grown g12' BEL11.out.size (fun k hk => by injection hk with e; omega)
          have hs12 := bel12.size
          refine (refQuick_any A12 n12 c12 w12.heap.size (turnL key 0x5c ++ M) w12 hn12.out rd12.out (Nat.le_refl _) (by rw [hn12.out, List.length_append, HTO.out, HML.out]; omega)).mono ?_
          rintro e w13 ⟨rfl, b13⟩
          rw [HMAC.out]
          have hml13 := macL_len key b
          have HML13 := Lib.hid hml13
          have blk013 := blk012.below b13 blk012.lt
          have bel13 := Lib.hid (bel12.trans (b13.mono hs12))
          clear own12 g12 rd12 g12' blk012 bel12 b13 hml13 OWN11 RD11 B011 BEL11 HL2
          go_wp2_with (refine wpList_store_row rfl 64 _ _ rfl w.heap.size 64 (bcells z32) (bcells (macL key b)) rfl rfl blk013 (by rw [bcells_size, bcells_size, HML13.out, z32_len]) (bcells_one _) (by rw [bcells_size, HML13.out, size32]) ?_; intro w14 blk14 g14 sz14)
          have hl := load_row w14 64 w.heap.size 64 (bcells (macL key b)) blk14 32 5 Try.underlying64 (by rw [bcells_size, HML13.out, size32])
          refine bodyPost_ret (v := .agg (bcells (macL key b))) (by simp [results, Try.results50, Act.put, asAddr, hl]) rfl ⟨rfl, bel13.out.grown g14 bel13.out.size (fun k hk => by injection hk with e; omega)⟩

end Go.Proofs.Ytehhgfkbcjbciaa
