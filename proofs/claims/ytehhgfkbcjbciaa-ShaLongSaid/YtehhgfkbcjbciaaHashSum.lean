/- (*sha.Hash).Sum, sha.Sum. -/
import Derived.Test.YtehhgfkbcjbciaaHash
import Derived.Test.YtehhgfkbcjbciaaNum
namespace Go.Proofs.Ytehhgfkbcjbciaa
open Go.RowKit

/-- 32 bytes as cells -/
def bcells (l : List UInt8) : Array Value := (l.map B).toArray
def z32 : List UInt8 := List.replicate 32 0

theorem bcells_size (l : List UInt8) : (bcells l).size = l.length := by simp [bcells]
theorem bcells_one (l : List UInt8) : (bcells l).all (·.oneCell') = true := by
  rw [Array.all_eq_true_iff_forall_mem]
  intro v hv
  unfold bcells at hv
  rw [List.mem_toArray] at hv
  exact one_B l v hv

theorem zero32 : (Try.prog.info? 64).map (fun i => (i.zero, i.size)) = some (some (.agg (bcells z32)), (bcells z32).size) := by kernel_rfl
theorem size32 : (Try.prog.info? 64).map (·.size) = some 32 := by kernel_rfl
theorem z32_len : z32.length = 32 := by decide

theorem run_index_word (w : World) (l : List W32) (hl : l.length = 8) (k : Nat) (hk : k < 8) (K : Int) (hK : K = (k : Int)) :
    (Instr.index 85 (.agg (wcells l)) (.int .i64 K)).run Try.prog w = .ok (.int .u32 (U (l.getD k 0))) w := by
  subst hK
  have hs : Try.prog.underlying 85 = some (.array 8 26) := Try.underlying85
  have h1 : ∀ w, (sizeOf 26).run Try.prog w = .ok 1 w := fun _ => by kernel_rfl
  have h2 : ∀ w, (isAgg 26).run Try.prog w = .ok false w := fun _ => by kernel_rfl
  have hc := wcells_at l k (by omega)
  simp [Instr.index, asIntOf, run_underlying hs, h1, h2, part, hc]
  intro h
  omega

/-- the first k words' bytes, the rest noughts -/
def outK (S : List W32) (k : Nat) : List UInt8 := (S.take k).flatMap (fun x => put x.toNat 4) ++ List.replicate (32 - 4 * k) 0

theorem out_len (S : List W32) (k : Nat) (hk : k ≤ S.length) : ((S.take k).flatMap (fun x => put x.toNat 4)).length = 4 * k := by
  induction k with
  | zero => simp
  | succ k ih =>
    rw [List.take_succ_eq_append_getElem (by omega), List.flatMap_append, List.length_append, ih (by omega)]
    simp [put_len]
    omega

theorem outK_zero (S : List W32) : outK S 0 = z32 := by simp [outK, z32]

theorem outK_all (S : List W32) (hl : S.length = 8) : outK S 8 = S.flatMap (fun x => put x.toNat 4) := by
  unfold outK
  rw [List.take_of_length_le (by omega)]
  simp

theorem outK_len (S : List W32) (hl : S.length = 8) (k : Nat) (hk : k ≤ 8) : (outK S k).length = 32 := by
  unfold outK
  rw [List.length_append, out_len S k (by omega), List.length_replicate]
  omega

theorem put4 (n : Nat) : put n 4 = [UInt8.ofNat (n / 256 ^ 3), UInt8.ofNat (n / 256 ^ 2), UInt8.ofNat (n / 256 ^ 1), UInt8.ofNat (n / 256 ^ 0)] := rfl

theorem outK_set (S : List W32) (hl : S.length = 8) (k : Nat) (hk : k < 8) :
    ((((outK S k).set (4 * k) (UInt8.ofNat ((S.getD k 0).toNat / 256 ^ 3))).set (4 * k + 1) (UInt8.ofNat ((S.getD k 0).toNat / 256 ^ 2))).set (4 * k + 2) (UInt8.ofNat ((S.getD k 0).toNat / 256 ^ 1))).set (4 * k + 3) (UInt8.ofNat ((S.getD k 0).toNat / 256 ^ 0)) = outK S (k + 1) := by
  have h1 := out_len S k (by omega)
  have e : S.take (k + 1) = S.take k ++ [S.getD k 0] := by
    rw [List.take_succ_eq_append_getElem (by omega), List.getD_eq_getElem?_getD, List.getElem?_eq_getElem (by omega)]
    rfl
  obtain ⟨m, hm⟩ : ∃ m, 32 - 4 * k = m + 4 := ⟨28 - 4 * k, by omega⟩
  unfold outK
  rw [e, List.flatMap_append, hm, show 32 - 4 * (k + 1) = m from by omega]
  rw [show List.replicate (m + 4) (0 : UInt8) = 0 :: 0 :: 0 :: 0 :: List.replicate m 0 from rfl]
  generalize (S.take k).flatMap (fun x => put x.toNat 4) = P at h1
  rw [List.set_append_right _ _ (by omega), List.set_append_right _ _ (by omega), List.set_append_right _ _ (by omega), List.set_append_right _ _ (by omega), h1]
  rw [show 4 * k - 4 * k = 0 from by omega, show 4 * k + 1 - 4 * k = 1 from by omega, show 4 * k + 2 - 4 * k = 2 from by omega, show 4 * k + 3 - 4 * k = 3 from by omega]
  simp [put4]

theorem U_byte3 (x : W32) : U x / 16777216 % 256 = ((UInt8.ofNat (x.toNat / 256 ^ 3)).toNat : Int) := by
  rw [ofNat8]; unfold U; omega
theorem U_byte2 (x : W32) : U x / 65536 % 256 = ((UInt8.ofNat (x.toNat / 256 ^ 2)).toNat : Int) := by
  rw [ofNat8]; unfold U; omega
theorem U_byte1 (x : W32) : U x / 256 % 256 = ((UInt8.ofNat (x.toNat / 256 ^ 1)).toNat : Int) := by
  rw [ofNat8]; unfold U; omega
theorem U_byte0 (x : W32) : U x % 256 = ((UInt8.ofNat (x.toNat / 256 ^ 0)).toNat : Int) := by
  rw [ofNat8]; unfold U; omega

theorem bcells_set (l : List UInt8) (i : Nat) (c : UInt8) : (bcells l).setIfInBounds i (.int .u8 (c.toNat : Int)) = bcells (l.set i c) := by
  unfold bcells
  rw [List.setIfInBounds_toArray, List.map_set]
  rfl

theorem bcells_at (l : List UInt8) (i : Nat) (h : i < l.length) : ∃ v, (bcells l)[i]? = some (.int .u8 v) := by
  unfold bcells
  rw [List.getElem?_toArray, List.getElem?_map, List.getElem?_eq_getElem h]
  exact ⟨_, rfl⟩

theorem wcells_mid (l : List W32) : wcells l = ([] ++ l.map WV ++ []).toArray := by simp [wcells]

/-- what stands beside the text that is being filled up: the words, the result's place -/
structure Side (w wr : World) (gs : Nat) (S : List W32) : Prop where
  s : Blk wr gs 85 (wcells S)
  r : Blk wr w.heap.size 64 (bcells z32)
  bel : Below w.heap.size w wr
  lt : w.heap.size < gs

theorem Side.alloc {w wr : World} {gs : Nat} {S : List W32} (h : Side w wr gs S) (o : Obj) : Side w (wr.alloc o) gs S := ⟨h.s.alloc o, h.r.alloc o, h.bel.alloc h.bel.size o, h.lt⟩

theorem Side.app {w wr w' : World} {gs : Nat} {S : List W32} (h : Side w wr gs S) {v : Value} {l : List UInt8} (own : OwnB wr w.heap.size v l) (g : wr.grownBy w' v.ownBlock) : Side w w' gs S :=
  ⟨h.s.grown g (own.ne h.s (by decide)), h.r.grown g (own.ne h.r (by decide)), h.bel.grown g h.bel.size (fun k hk => (own.slice.choose_spec.choose_spec.2.2.2.2 k hk).1), h.lt⟩

set_option maxRecDepth 100000 in
set_option maxHeartbeats 4000000 in
theorem sum_any (base g : Nat) (v : Value) (M : List UInt8) (w : World) (hh : HashK w base g (M.length / 64) v M) (hM : (M.length : Int) ≤ 100000) :
    Calls Try.prog 47 #[.pointer (some ⟨g, 0, none⟩)] w fun e w' => e = .returned (.agg (bcells (sha M))) ∧ Below w.heap.size w w' := by
  have HH := Lib.hid hh
  have lt := hh.blk.lt
  clear hh
  go_enter Try.func47, Try.ntmps47
  go_wp2_with (refine wpList_alloc_row rfl 64 rfl (bcells z32) zero32 ?_)
  have blk0 := Blk.new w 64 (bcells z32)
  have blkh := HH.out.blk.alloc (.cells (bcells z32) 64)
  have bel := (Below.refl w.heap.size w).alloc (Nat.le_refl _) (.cells (bcells z32) 64)
  have c0 := (blkh.cell 0).trans (hcells_on _ _ _ _)
  refine (begin_on g _ c0).mono ?_
  rintro e w' ⟨rfl, rfl⟩
  have blkr : Blk (w.alloc (.cells (bcells z32) 64)) g 90 ([Value.bool true] ++ (blocks h0s M (M.length / 64)).map WV ++ [v, .int .u64 (M.length : Int)]).toArray := blkh
  have hS := blocks_len h0s M h0s_len (M.length / 64)
  have rng := blkr.range (o := 1) rfl
  have ownr : OwnM (w.alloc (.cells (bcells z32) 64)) base v (M.drop (64 * (M.length / 64))) := HH.out.rest.below bel (fun g' hg' => (HH.out.rest.lt g' hg').2)
  have c9 := (blkh.cell 9).trans (hcells_rest _ _ _ _)
  have c10 := (blkh.cell 10).trans (hcells_n _ _ _ _)
  generalize hx : w.alloc (.cells (bcells z32) 64) = w1 at *
  have hz1 : w1.heap.size = w.heap.size + 1 := by rw [← hx]; simp
  have lt1 : w.heap.size < w1.heap.size := by omega
  have ltg1 : g < w1.heap.size := by omega
  clear hx blkr c0 hz1
  generalize hSS : blocks h0s M (M.length / 64) = SS at hS rng
  have lenL : (M.drop (64 * (M.length / 64))).length = M.length % 64 := by rw [List.length_drop]; omega
  generalize hLL : M.drop (64 * (M.length / 64)) = L at ownr lenL
  obtain ⟨A0, N0, n0, rfl, hN0, _, _, rd0⟩ := ownr.slice'
  have HSS := Lib.hid hSS
  have HLL := Lib.hid hLL
  have LENL := Lib.hid lenL
  have HS := Lib.hid hS
  have OWNR := Lib.hid ownr
  have BLKH := Lib.hid blkh
  have BLK0 := Lib.hid blk0
  have RNG := Lib.hid rng
  have BEL := Lib.hid bel
  have RD0 := Lib.hid rd0
  clear rd0
  have hlen0 : ([] : List UInt8).length + L.length ≤ 140737488355328 := by have := LENL.out; simp; omega
  have hlen1 : L.length + 1 ≤ 140737488355328 := by have := LENL.out; omega
  have HLEN0 := Lib.hid hlen0
  have HLEN1 := Lib.hid hlen1
  clear hlen0 hlen1
  clear hSS hLL lenL hS ownr blkh blk0 rng bel
  have blk2 := Blk.new w1 85 (wcells z8)
  go_wp2_with (first
    | (refine wpList_alloc_row rfl 85 rfl (wcells z8) zero8 ?_)
    | (refine wpList_load_mid rfl 85 _ rfl g 1 rfl (SS.map WV) _ RNG.out Try.underlying85 rfl (by rw [List.length_map, HS.out, size8]) ?_)
    | (refine wpList_store_row rfl 85 _ _ rfl w1.heap.size 85 (wcells z8) (wcells SS) rfl rfl blk2 (by simp only [wcells_size, HS.out, z8_len]) (wcells_one _) (by rw [wcells_size, HS.out, size8]) ?_; intro w2 blk3 g3 sz3; have blkh2 := (BLKH.out.alloc (.cells (wcells z8) 85)).grown g3 (by simp; omega); have d9 := (blkh2.cell 9).trans (hcells_rest _ _ _ _); have d10 := (blkh2.cell 10).trans (hcells_n _ _ _ _); have lt2 : w1.heap.size < w2.heap.size := (by rw [sz3]; simp); clear c9 c10; have rd2 : RdB w2 w1.heap.size A0 L := RdB.grown (w := w1.alloc (.cells (wcells z8) 85)) (Rd.alloc RD0.out (Nat.le_refl _) _) g3 (by simp) (fun k hk => by injection hk with e; omega); replace rd2 := Lib.hid rd2; replace sz3 := Lib.hid sz3; replace g3 := Lib.hid g3; replace blkh2 := Lib.hid blkh2; replace blk3 := Lib.hid blk3; replace blk2 := Lib.hid blk2)
    | (at_builtin; refine wpList_append_u8 rfl (.const (.slice none 0 0)) (.tmp 23) rfl w.heap.size (.slice none 0 0) [] rfl (OwnB.nil _ _) w1.heap.size A0 N0 n0 L rfl hN0.out rd2.out HLEN0.out (by omega) ?_; intro v3 w3 own3 g4; rw [List.nil_append] at own3; have lt3 := g4.size; replace own3 := Lib.hid own3; replace g4 := Lib.hid g4)
    | (at_builtin; refine wpList_append_u8 rfl (.tmp 24) (.tmp 25) rfl w.heap.size v3 L rfl (own3.out.below ((Below.refl _ _).alloc (Nat.le_refl _) _)) (w3.heap.size + 1) (some ⟨w3.heap.size, 0, none⟩) 1 1 [128] rfl rfl (Rd.new w3 _ _ _) HLEN1.out (by simp; omega) ?_; intro v4 w4 own4 g5; replace own4 := Lib.hid own4; replace g5 := Lib.hid g5))
  have side2 : Side w w2 w1.heap.size SS := ⟨blk3.out, ((BLK0.out.alloc _).grown g3.out (by simp; omega)), (BEL.out.alloc (by omega) _).grown g3.out (by simp; omega) (fun k hk => by injection hk with e; omega), lt1⟩
  have side4 : Side w w4 w1.heap.size SS := (Side.alloc (side2.app (OwnB.nil _ _) g4.out) _).app (own3.out.alloc _) g5.out
  have own5 := own4.out
  clear side2 BEL blk3 BLK0 g3 g4 g5 own3 own4 RNG RD0 rd2 blkh2 BLKH OWNR sz3 d9 d10 lt3 lt2 blk2 HLEN0 HLEN1 ltg1
  clear lt1
  generalize w1.heap.size = gs at *
  have hp : (119 - M.length % 64) % 64 ≤ 63 := by omega
  go_loopg [4] ((119 - M.length % 64) % 64) (fun q v wr => ∃ j, j + q = (119 - M.length % 64) % 64 ∧ OwnB wr w.heap.size v (L ++ [128] ++ List.replicate j 0) ∧ Side w wr gs SS)
  case atStart => exact ⟨0, by omega, by simpa using own5, side4⟩
  case round =>
    clear own5 side4
    obtain ⟨j, hj, own, side⟩ := hrel
    obtain ⟨A1, N1, n1, rfl, hN1, hn1, hm1, _⟩ := own.slice'
    have hlen : N1 = M.length % 64 + 1 + j := by rw [hN1.out]; simp [LENL.out]; omega
    have OWN := Lib.hid own
    have SIDE := Lib.hid side
    have HJ := Lib.hid hj
    clear own side
    by_cases hlt : j < (119 - M.length % 64) % 64
    · have t1 : ¬ ((N1 : Int) % 64 = 56) := by omega
      have t2 : ((N1 : Int) % 64 != 56) = true := by simpa using t1
      have hb1 : (N1 : Int) ≤ 1000 := by omega
      have lx : (L ++ [128] ++ List.replicate j 0).length + 1 ≤ 140737488355328 := by rw [← hN1.out]; omega
      have LX := Lib.hid lx
      have HL := Lib.hid hlen
      have hsz := SIDE.out.bel.size
      clear hlen lx hj
      go_wp2_with (at_builtin; refine wpList_append_u8 rfl (.tmp 31) (.tmp 32) rfl w.heap.size _ (L ++ [128] ++ List.replicate j 0) rfl (OWN.out.alloc _) (wr.heap.size + 1) (some ⟨wr.heap.size, 0, none⟩) 1 1 [0] rfl rfl (Rd.new wr _ _ _) LX.out (by simp; omega) ?_; intro v2 w2 own2 g2; replace own2 := Lib.hid own2; replace g2 := Lib.hid g2)
      go_roundg (gk - 1)
      case measure => have := HJ.out; omega
      case rel =>
        refine ⟨j + 1, by have := HJ.out; omega, ?_, (SIDE.out.alloc _).app (OWN.out.alloc _) g2.out⟩
        have e : L ++ [128] ++ List.replicate (j + 1) 0 = L ++ [128] ++ List.replicate j 0 ++ [0] := by rw [List.replicate_succ', ← List.append_assoc]
        rw [e]
        exact own2.out
    · obtain rfl : j = (119 - M.length % 64) % 64 := by omega
      have t1 : (N1 : Int) % 64 = 56 := by omega
      have hb1 : (N1 : Int) ≤ 1000 := by omega
      have HL := Lib.hid hlen
      obtain ⟨m8, hm8⟩ : ∃ m8, m8 = M.length * 8 := ⟨_, rfl⟩
      have e8 : (M.length : Int) * 8 = (m8 : Int) := by omega
      have M8 := Lib.hid hm8
      have d10 := ((HH.out.blk.below SIDE.out.bel lt).cell 10).trans (hcells_n _ _ _ _)
      generalize hX : L ++ [128] ++ List.replicate ((119 - M.length % 64) % 64) 0 = X at OWN hN1
      have HX := Lib.hid hX
      clear hlt hj hlen hp hm8 hX
      go_wp2_with fail
      obtain ⟨wo, rfl⟩ : ∃ wo : World, wo = wr := ⟨_, rfl⟩
      go_loopw [4, 6] (fun v i wr => ∃ k j : Nat, k + j = 8 ∧ i = .int .i64 ((j : Int) - 1) ∧ OwnB wr w.heap.size v (X ++ (put m8 8).take k) ∧ Side w wr gs SS) (fun _ i _ => (intOf i + 1).toNat)
      case atStart => exact ⟨0, 8, by omega, rfl, by simpa using OWN.out, SIDE.out⟩
      case round =>
        clear OWN SIDE d10 e8 t1
        obtain ⟨k, j, hkj, rfl, own, side⟩ := hrel
        cases j with
        | succ j =>
          rw [show (((j + 1 : Nat) : Int) - 1) = (j : Int) from by omega]
          have hj8 : j < 8 := by omega
          have hsz := side.bel.size
          have htk : ((put m8 8).take k).length = k := by rw [List.length_take, put_len]; omega
          have lx : (X ++ (put m8 8).take k).length + 1 ≤ 140737488355328 := by rw [List.length_append, htk, ← hN1.out]; omega
          have LX := Lib.hid lx
          have OWN := Lib.hid own
          have SIDE := Lib.hid side
          clear own side htk lx
          go_wp2_with (at_builtin; rw [byte_of m8 j]; refine wpList_append_u8 rfl (.tmp 43) (.tmp 49) rfl w.heap.size _ (X ++ (put m8 8).take k) rfl (OWN.out.alloc _) (wr.heap.size + 1) (some ⟨wr.heap.size, 0, none⟩) 1 1 [UInt8.ofNat (m8 / 256 ^ j)] rfl rfl (Rd.new wr _ _ _) LX.out (by simp; omega) ?_; intro v2 w2 own2 g2; replace own2 := Lib.hid own2; replace g2 := Lib.hid g2)
          refine ⟨⟨k + 1, j, by omega, rfl, ?_, (SIDE.out.alloc _).app (OWN.out.alloc _) g2.out⟩, by simp [intOf]⟩
          have e : X ++ (put m8 8).take (k + 1) = X ++ (put m8 8).take k ++ [UInt8.ofNat (m8 / 256 ^ j)] := by rw [put_take_snoc m8 8 k (by omega), show 8 - 1 - k = j from by omega, List.append_assoc]
          rw [e]
          exact own2.out
        | zero =>
          obtain rfl : k = 8 := by omega
          rw [List.take_of_length_le (by rw [put_len]; omega)] at own
          have hT : X ++ put m8 8 = tail M := by unfold tail; rw [← HX.out, M8.out, HLL.out]
          rw [hT] at own
          have hTl := tail_len M
          have hsha : sha M = (blocks SS (tail M) ((tail M).length / 64)).flatMap fun x => put x.toNat 4 := by rw [sha_tail, HSS.out]
          have hTb : (tail M).length ≤ 2000 := by rw [← hT, List.length_append, put_len, ← hN1.out]; omega
          have SHA := Lib.hid hsha
          have HSl := HS.out
          clear hT hsha hkj
          generalize tail M = T at *
          have own5 := own.mid
          go_wp2_with fail
          obtain ⟨wo2, rfl⟩ : ∃ wo : World, wo = wr := ⟨_, rfl⟩
          go_loopg [4] (T.length / 64) (fun q v wr => ∃ j, j + q = T.length / 64 ∧ OwnM wr w.heap.size v (T.drop (64 * j)) ∧ Side w wr gs (blocks SS T j))
          case atStart => exact ⟨0, by omega, by simpa using own5, side⟩
          case round =>
            clear own own5 side
            obtain ⟨j, hj, own, side⟩ := hrel
            have hlj : (T.drop (64 * j)).length = T.length - 64 * j := List.length_drop
            generalize hl : T.drop (64 * j) = l at own hlj
            obtain ⟨A1, c1, rfl, hn1, hm1, rd1⟩ := own.slice
            have LL := Lib.hid hl
            have HLJ := Lib.hid hlj
            have OWN := Lib.hid own
            have SIDE := Lib.hid side
            have HJ := Lib.hid hj
            have bl8 := blocks_len SS T HSl j
            generalize hbl : blocks SS T j = bs at bl8
            have HBL := Lib.hid hbl
            have BL8 := Lib.hid bl8
            have TL := Lib.hid hTl
            by_cases hlt : j < T.length / 64
            · have h64 : 64 ≤ l.length := by omega
              have hc0 : ¬ c1 = 0 := by omega
              have hc64 : (64 : Int) ≤ c1 := by omega
              have hlb : (l.length : Int) ≤ 2000 := by omega
              clear hl hlj own side hj hbl bl8 hTl
              go_wp2_with fail
              have hsz := SIDE.out.bel.size
              have hslt := SIDE.out.lt
              refine (mix_any gs 0 85 [] [] bs A1 c1 (l.take 64) wr (by rw [← HBL.out, ← wcells_mid]; exact SIDE.out.s) rfl BL8.out (rd1.take 64) (by rw [List.length_take]; omega)).mono ?_
              rintro e w5 ⟨rfl, blk5, g5⟩
              rw [← wcells_mid] at blk5
              have ne1 := OWN.out.ne SIDE.out.s (by decide)
              have own5 : OwnM w5 w.heap.size (.slice A1 l.length c1) l := OWN.out.keep fun g' hg' => g5.block g' (OWN.out.lt g' hg').2 (fun h => ne1 (by rw [hg', h]))
              have cut5 := own5.cut 64 h64 (by omega)
              obtain ⟨A3, hA3, _⟩ := rd1.rest l.length c1 64 rfl hn1 h64
              generalize (l.drop 64).length = N3 at hA3
              generalize c1 - 64 = n3 at hA3
              have side5 : Side w w5 gs (mixS bs (l.take 64)) := ⟨blk5, SIDE.out.r.grown g5 (by simp; omega), SIDE.out.bel.grown g5 hsz (fun k hk => by injection hk with e; omega), hslt⟩
              have HA := Lib.hid hA3
              have CUT := Lib.hid cut5
              have SIDE5 := Lib.hid side5
              clear blk5 own5 cut5 hA3 g5 side5 ne1
              go_wp2_with (refine wpList_cut_u8 rfl _ _ rfl A1 l.length c1 64 rfl rfl h64 ?_; rw [HA.out])
              go_roundg (gk - 1)
              case measure => have := HJ.out; omega
              case rel =>
                have o := CUT.out.1
                rw [HA.out] at o
                refine ⟨j + 1, by have := HJ.out; omega, ?_, ?_⟩
                · have e : T.drop (64 * (j + 1)) = l.drop 64 := by rw [← LL.out, List.drop_drop]; congr 1
                  rw [e]
                  exact o
                · have e : blocks SS T (j + 1) = mixS bs (l.take 64) := by rw [← LL.out, ← HBL.out]; rfl
                  rw [e]
                  exact SIDE5.out
            · have hl0 : l.length = 0 := by omega
              have hlI : (l.length : Int) = 0 := by omega
              obtain rfl : j = T.length / 64 := by omega
              rw [hl0]
              have hside := SIDE.out
              rw [HBL.out] at hside
              rw [HBL.out] at SHA
              have hsz := hside.bel.size
              have hblS := hside.s
              have blk7 := Blk.new wr 64 (bcells z32)
              have blk8 : Blk (wr.alloc (.cells (bcells z32) 64)) w.heap.size 64 (bcells z32) := hside.r.alloc _
              have hblA : Blk (wr.alloc (.cells (bcells z32) 64)) gs 85 (wcells bs) := hside.s.alloc _
              have bel8 : Below w.heap.size w (wr.alloc (.cells (bcells z32) 64)) := hside.bel.alloc hsz _
              have lt7 : w.heap.size < wr.heap.size := hside.r.lt
              clear own side hl hlj hj hl0 hlI hlt hTl hbl hside SIDE hblS
              go_wp2_with (first
                | (refine wpList_alloc_row rfl 64 rfl (bcells z32) zero32 ?_)
                | (refine wpList_load_row' rfl 85 _ rfl gs 85 (wcells bs) rfl hblA 8 26 Try.underlying85 (by rw [wcells_size, bl8, size8]) ?_))
              generalize wr.alloc (.cells (bcells z32) 64) = w7 at *
              generalize wr.heap.size = g7 at *
              clear hblA
              obtain ⟨wo3, rfl⟩ : ∃ wo : World, wo = w7 := ⟨_, rfl⟩
              have BL8' := Lib.hid bl8
              go_loopw [60] (fun i wr => ∃ k : Nat, k ≤ 8 ∧ i = .int .i64 k ∧ Blk wr g7 64 (bcells (outK bs k)) ∧ Blk wr w.heap.size 64 (bcells z32) ∧ Below w.heap.size w wr) (fun i _ => 8 - (intOf i).toNat)
              case atStart => exact ⟨0, by omega, rfl, by rw [outK_zero]; exact blk7, blk8, bel8⟩
              case round =>
                clear blk7 blk8 bel8 bl8
                obtain ⟨k, hk, rfl, blk7, blk8, bel8⟩ := hrel
                by_cases hlt : k < 8
                · have hidx : ∀ W : World, (Instr.index 85 (.agg (wcells bs)) (.int .i64 (k : Int))).run Try.prog W = .ok (.int .u32 (U (bs.getD k 0))) W := fun W => run_index_word W bs BL8'.out k hlt k rfl
                  have hset := outK_set bs BL8'.out k hlt
                  have b3 := U_byte3 (bs.getD k 0)
                  have b2 := U_byte2 (bs.getD k 0)
                  have b1 := U_byte1 (bs.getD k 0)
                  have b0 := U_byte0 (bs.getD k 0)
                  generalize bs.getD k 0 = x at hidx hset b3 b2 b1 b0
                  generalize UInt8.ofNat (x.toNat / 256 ^ 3) = x3 at hset b3
                  generalize UInt8.ofNat (x.toNat / 256 ^ 2) = x2 at hset b2
                  generalize UInt8.ofNat (x.toNat / 256 ^ 1) = x1 at hset b1
                  generalize UInt8.ofNat (x.toNat / 256 ^ 0) = x0 at hset b0
                  have ol := outK_len bs BL8'.out k hk
                  obtain ⟨y0, c0⟩ := bcells_at (outK bs k) (4 * k) (by omega)
                  obtain ⟨y1, c1⟩ := bcells_at (outK bs k) (4 * k + 1) (by omega)
                  obtain ⟨y2, c2⟩ := bcells_at (outK bs k) (4 * k + 2) (by omega)
                  obtain ⟨y3, c3⟩ := bcells_at (outK bs k) (4 * k + 3) (by omega)
                  replace c0 := (blk7.cell _).trans c0
                  replace c1 := (blk7.cell _).trans c1
                  replace c2 := (blk7.cell _).trans c2
                  replace c3 := (blk7.cell _).trans c3
                  have f0 := blk7.frozen (4 * k)
                  have f1 := blk7.frozen (4 * k + 1)
                  have f2 := blk7.frozen (4 * k + 2)
                  have f3 := blk7.frozen (4 * k + 3)
                  have BLK7 := Lib.hid blk7
                  have BLK8 := Lib.hid blk8
                  have BEL8 := Lib.hid bel8
                  have HSET := Lib.hid hset
                  clear blk7 blk8 bel8 hset ol
                  go_wp2_with fail
                  refine ⟨⟨k + 1, by omega, by simp, ?_, ?_, ?_⟩, by simp [intOf]; omega⟩
                  · rw [← HSET.out, ← bcells_set, ← bcells_set, ← bcells_set, ← bcells_set]
                    exact (((BLK7.out.store _ _).store _ _).store _ _).store _ _
                  · exact (((BLK8.out.other (by omega) _).other (by omega) _).other (by omega) _).other (by omega) _
                  · exact (((BEL8.out.setCell (p := ⟨g7, 4 * k, none⟩) (by show w.heap.size ≤ g7; omega) _).setCell (p := ⟨g7, 4 * k + 1, none⟩) (by show w.heap.size ≤ g7; omega) _).setCell (p := ⟨g7, 4 * k + 2, none⟩) (by show w.heap.size ≤ g7; omega) _).setCell (p := ⟨g7, 4 * k + 3, none⟩) (by show w.heap.size ≤ g7; omega) _
                · obtain rfl : k = 8 := by omega
                  rw [outK_all bs BL8'.out, ← SHA.out] at blk7
                  have hsl : (sha M).length = 32 := by rw [SHA.out, ← outK_all bs BL8'.out, outK_len bs BL8'.out 8 (by omega)]
                  have HSL := Lib.hid hsl
                  have BEL8 := Lib.hid bel8
                  clear hlt hk bel8 hsl
                  go_wp2_with (first
                    | (refine wpList_load_row' rfl 64 _ rfl g7 64 (bcells (sha M)) rfl blk7 32 5 Try.underlying64 (by rw [bcells_size, HSL.out, size32]) ?_)
                    | (refine wpList_store_row rfl 64 _ _ rfl w.heap.size 64 (bcells z32) (bcells (sha M)) rfl rfl blk8 (by rw [bcells_size, bcells_size, HSL.out, z32_len]) (bcells_one _) (by rw [bcells_size, HSL.out, size32]) ?_; intro w9 blk9 g9 sz9))
                  have hl := load_row w9 64 w.heap.size 64 (bcells (sha M)) blk9 32 5 Try.underlying64 (by rw [bcells_size, HSL.out, size32])
                  refine bodyPost_ret (v := .agg (bcells (sha M))) (by simp [results, Try.results47, Act.put, asAddr, hl]) rfl ⟨rfl, BEL8.out.grown g9 BEL8.out.size (fun k hk => by injection hk with e; omega)⟩

end Go.Proofs.Ytehhgfkbcjbciaa
