/- stillroomref1.Digest. -/
import Derived.Test.YtehhgfkbcjbciaaRoot
import Derived.Test.YtehhgfkbcjbciaaRefDig
import Derived.Deep.Cut
namespace Go.Proofs.Ytehhgfkbcjbciaa
open Go.RowKit

/-- the first k words, the rest noughts -/
def fillW (xs : List W32) (n k : Nat) : List W32 := xs.take k ++ List.replicate (n - k) 0#32

theorem fillW_set (xs : List W32) (n k : Nat) (hl : xs.length = n) (hk : k < n) : (wcells (fillW xs n k)).setIfInBounds k (.int .u32 (U (xs.getD k 0))) = wcells (fillW xs n (k + 1)) := by
  have hk' : k < xs.length := by omega
  obtain ⟨m, hm⟩ : ∃ m, n - k = m + 1 := ⟨n - k - 1, by omega⟩
  have e : (fillW xs n k).set k (xs.getD k 0) = fillW xs n (k + 1) := by
    unfold fillW
    rw [List.take_succ_eq_append_getElem hk', List.set_append_right _ _ (by simp; omega)]
    simp only [List.length_take]
    rw [show k - min k xs.length = 0 from by omega, hm, show n - (k + 1) = m from by omega, List.replicate_succ, List.set_cons_zero, List.append_assoc, List.getD_eq_getElem?_getD, List.getElem?_eq_getElem hk']
    rfl
  rw [← e]
  unfold wcells
  rw [List.setIfInBounds_toArray, List.map_set]
  rfl

theorem fillW_len (xs : List W32) (n k : Nat) (hl : xs.length = n) (hk : k ≤ n) : (fillW xs n k).length = n := by
  unfold fillW
  simp [hl]
  omega

theorem fillW_all (xs : List W32) (n : Nat) (hl : xs.length = n) : fillW xs n n = xs := by
  unfold fillW
  rw [List.take_of_length_le (by omega)]
  simp

theorem fillW_zero (xs : List W32) (n : Nat) : fillW xs n 0 = List.replicate n 0#32 := by simp [fillW]

theorem fillW_at (xs : List W32) (n k : Nat) (hl : xs.length = n) (hk : k < n) : ∃ x, (wcells (fillW xs n k))[k]? = some (.int .u32 (U x)) := ⟨_, wcells_at (fillW xs n k) k (by rw [fillW_len xs n k hl (by omega)]; exact hk)⟩

theorem rootsOk_at (k : Nat) (ps : List Nat) (xs : List W32) (h : rootsOk k ps xs = true) (i : Nat) (h1 : i < ps.length) (h2 : i < xs.length) :
    rootOf k (ps.getD i 0) (xs.getD i 0) ^ k ≤ ps.getD i 0 * 65536 ^ (2 * k) ∧ ps.getD i 0 * 65536 ^ (2 * k) < (rootOf k (ps.getD i 0) (xs.getD i 0) + 1) ^ k ∧ BitVec.ofNat 32 (rootOf k (ps.getD i 0) (xs.getD i 0)) = xs.getD i 0 ∧ ps.getD i 0 ≤ 311 := by
  unfold rootsOk at h
  rw [List.all_eq_true] at h
  have hm : (ps[i], xs[i]) ∈ ps.zip xs := by
    rw [List.mem_iff_getElem]
    exact ⟨i, by simp; omega, by simp⟩
  have := h _ hm
  simp only [Bool.and_eq_true, decide_eq_true_eq] at this
  rw [List.getD_eq_getElem?_getD, List.getElem?_eq_getElem h1, List.getD_eq_getElem?_getD, List.getElem?_eq_getElem h2]
  exact ⟨this.1.1.1.1, this.1.1.1.2, this.1.1.2, this.1.2⟩

theorem root3_any (i : Nat) (hi : i < 64) (w : World) : Calls Try.prog 61 #[.int .i64 (((primes 312).getD i 0 : Nat) : Int), .int .i64 3] w fun e w' => e = .returned (.int .u32 (U (ks.getD i 0))) ∧ Below w.heap.size w w' := by
  obtain ⟨h1, h2, h3, h4⟩ := rootsOk_at 3 (primes 312) ks roots3 i (by rw [primes_312]; exact hi) (by rw [ks_len]; exact hi)
  have h := root_any ((primes 312).getD i 0) 3 _ w h4 (.inr rfl) h1 h2
  unfold Rooted at h
  rw [h3] at h
  exact h

theorem root2_any (i : Nat) (hi : i < 8) (w : World) : Calls Try.prog 61 #[.int .i64 (((primes 312).getD i 0 : Nat) : Int), .int .i64 2] w fun e w' => e = .returned (.int .u32 (U (h0s.getD i 0))) ∧ Below w.heap.size w w' := by
  have hl : ((primes 312).take 8).length = 8 := by rw [List.length_take, primes_312]; rfl
  have e : ((primes 312).take 8).getD i 0 = (primes 312).getD i 0 := by
    rw [List.getD_eq_getElem?_getD, List.getElem?_take, if_pos hi, ← List.getD_eq_getElem?_getD]
  obtain ⟨h1, h2, h3, h4⟩ := rootsOk_at 2 ((primes 312).take 8) h0s roots2 i (by rw [hl]; exact hi) (by rw [h0s_len]; exact hi)
  rw [e] at h1 h2 h3 h4
  have h := root_any ((primes 312).getD i 0) 2 _ w h4 (.inl rfl) h1 h2
  unfold Rooted at h
  rw [h3] at h
  exact h

set_option maxRecDepth 100000 in
set_option maxHeartbeats 4000000 in
theorem refSha_any (A : Option Addr) (n c D : Nat) (b : List UInt8) (w : World) (hn : n = b.length) (hr : RdB w D A b) (hD : D ≤ w.heap.size) (hL : (n : Int) ≤ 10000) :
    Calls Try.prog 44 #[.slice A n c] w (Shad w b) := by
  have HN := Lib.hid hn
  have HR := Lib.hid hr
  have hml := sha_len b
  have HML := Lib.hid hml
  clear hr hn hml
  go_enter Try.func44, Try.ntmps44
  go_upto_region 1 with (refine wpList_alloc_row rfl 64 rfl (bcells z32) zero32 ?_)
  have blk0 := Blk.new w 64 (bcells z32)
  have bel0 := (Below.refl w.heap.size w).alloc (Nat.le_refl _) (.cells (bcells z32) 64)
  generalize w.alloc (.cells (bcells z32) 64) = w1 at *
  have hs0 := bel0.size
  go_wp2_with fail
  refine (first_any w1).mono ?_
  rintro e w2 ⟨v2, rfl, own2, b2⟩
  obtain ⟨Al, nl, cl, rfl, hnl, _, _, rdl⟩ := own2.slice'
  have hn64 : nl = 64 := by rw [hnl.out, primes_312]
  subst hn64
  have blk02 := blk0.below b2 blk0.lt
  have bel2 := bel0.trans (b2.mono hs0)
  have hs2 := bel2.size
  have BLK02 := Lib.hid blk02
  have BEL2 := Lib.hid bel2
  have lt02 := blk02.lt
  have blkk := Blk.new w2 84 (wcells z64)
  have blkh := Blk.new (w2.alloc (.cells (wcells z64) 84)) 85 (wcells z8)
  have ez : (w2.alloc (.cells (wcells z64) 84)).heap.size = w2.heap.size + 1 := by simp
  rw [ez] at blkh
  clear own2 b2 blk0 bel0 blk02 bel2 hnl
  go_upto_region 4 with (first
    | (refine wpList_alloc_row rfl 84 rfl (wcells z64) zero64 ?_)
    | (refine wpList_alloc_row rfl 85 rfl (wcells z8) zero8 ?_))
  rw [ez]
  clear ez
  have bel3 : Below w.heap.size w ((w2.alloc (.cells (wcells z64) 84)).alloc (.cells (wcells z8) 85)) := (BEL2.out.alloc hs2 _).alloc (by simp; omega) _
  have blk03 : Blk ((w2.alloc (.cells (wcells z64) 84)).alloc (.cells (wcells z8) 85)) w.heap.size 64 (bcells z32) := (BLK02.out.alloc _).alloc _
  have rd3 : RdI .i64 ((w2.alloc (.cells (wcells z64) 84)).alloc (.cells (wcells z8) 85)) w2.heap.size Al (primes 312) := rdl.below (((Below.refl w2.heap.size w2).alloc (Nat.le_refl _) _).alloc (by simp) _)
  have blkk3 := blkk.alloc (.cells (wcells z8) 85)
  generalize (w2.alloc (.cells (wcells z64) 84)).alloc (.cells (wcells z8) 85) = w3 at *
  generalize w2.heap.size = gk2 at *
  clear blkk rdl BLK02 BEL2
  go_wp2_with fail
  go_loopw [6] (fun iv wr => ∃ i : Nat, i ≤ 64 ∧ iv = .int .i64 i ∧ Blk wr gk2 84 (wcells (fillW ks 64 i)) ∧ Blk wr (gk2 + 1) 85 (wcells (fillW h0s 8 (min i 8))) ∧ Blk wr w.heap.size 64 (bcells z32) ∧ RdI .i64 wr gk2 Al (primes 312) ∧ Below w.heap.size w wr) (fun iv _ => 64 - (intOf iv).toNat)
  case atStart => exact ⟨0, by omega, rfl, by rw [fillW_zero]; exact blkk3, by rw [Nat.zero_min, fillW_zero]; exact blkh, blk03, rd3, bel3⟩
  case round =>
    clear blkk3 blkh blk03 rd3 bel3
    obtain ⟨i, hi, rfl, blkk, blkh, blk0, rd, bel⟩ := hrel
    have hsz := bel.size
    have hltk := blkk.lt
    have hlth := blkh.lt
    have hlt0 := blk0.lt
    by_cases hlt : i < 64
    · have hp : i < (primes 312).length := by rw [primes_312]; exact hlt
      obtain ⟨bl, ol, rfl, hbl, hcl⟩ := rd.at' hp
      have R3 := Lib.hid (root3_any i hlt)
      have hi64 : (i : Int) < 64 := by omega
      have setk := Lib.hid (fillW_set ks 64 i ks_len hlt)
      obtain ⟨q, hq⟩ := fillW_at ks 64 i ks_len hlt
      generalize hx : (primes 312).getD i 0 = x at hcl R3
      have HX := Lib.hid hx
      have RD := Lib.hid rd
      have BK := Lib.hid blkk
      have BH := Lib.hid blkh
      have B0 := Lib.hid blk0
      have BEL := Lib.hid bel
      clear hx rd blkk blkh blk0 bel hp
      go_wp2_with fail
      refine (R3.out wr).mono ?_
      rintro e w5 ⟨rfl, b5⟩
      have blkk5 := BK.out.below b5 hltk
      have blkh5 := BH.out.below b5 hlth
      have blk05 := B0.out.below b5 hlt0
      have bel5 := BEL.out.trans (b5.mono hsz)
      have rd5 := RdI.below RD.out (b5.mono (by omega))
      have ck := (blkk5.cell i).trans hq
      have fk := blkk5.frozen i
      have hs5 := b5.size
      have hbl5 : w5.cell? ⟨bl, ol + i, none⟩ = some (.int .i64 (x : Nat)) := by rw [b5.cell (p := ⟨bl, ol + i, none⟩) (by show bl < _; omega)]; exact hcl
      generalize ks.getD i 0 = kx at setk
      by_cases hlt8 : i < 8
      · have R2 := Lib.hid (root2_any i hlt8)
        rw [HX.out] at R2
        have hi8 : (i : Int) < 8 := by omega
        have hmin : min i 8 = i := by omega
        have hmin2 : min (i + 1) 8 = i + 1 := by omega
        rw [hmin] at blkh5
        have seth := Lib.hid (fillW_set h0s 8 i h0s_len hlt8)
        obtain ⟨q2, hq2⟩ := fillW_at h0s 8 i h0s_len hlt8
        have BK5 := Lib.hid blkk5
        have BH5 := Lib.hid blkh5
        have B05 := Lib.hid blk05
        have BEL5 := Lib.hid bel5
        have RD5 := Lib.hid rd5
        have HM2 := Lib.hid hmin2
        clear b5 blkk5 blkh5 blk05 bel5 rd5 hmin hmin2
        go_wp2_with fail
        refine (R2.out _).mono ?_
        rintro e w6 ⟨rfl, b6⟩
        have e6 : (w5.setCell ⟨gk2, i, none⟩ (.int .u32 (U kx))).heap.size = w5.heap.size := by simp
        rw [e6] at b6
        have blkk6 : Blk w6 gk2 84 (wcells (fillW ks 64 (i + 1))) := by
          refine Blk.below (w := w5.setCell ⟨gk2, i, none⟩ (.int .u32 (U kx))) ?_ b6 BK5.out.lt
          rw [← setk.out]
          exact BK5.out.store i _
        have blkh6 : Blk w6 (gk2 + 1) 85 (wcells (fillW h0s 8 i)) := Blk.below (BH5.out.other (by omega) _) b6 BH5.out.lt
        have blk06 : Blk w6 w.heap.size 64 (bcells z32) := Blk.below (B05.out.other (by omega) _) b6 B05.out.lt
        have bel6 : Below w.heap.size w w6 := (BEL5.out.setCell (p := ⟨gk2, i, none⟩) (by show w.heap.size ≤ gk2; omega) _).trans (b6.mono BEL5.out.size)
        have rd6 : RdI .i64 w6 gk2 (some ⟨bl, ol, none⟩) (primes 312) := by
          have h1 : RdI .i64 (w5.setCell ⟨gk2, i, none⟩ (.int .u32 (U kx))) gk2 (some ⟨bl, ol, none⟩) (primes 312) := Rd.keep RD5.out fun p hp => World.cell?_of_block (Below.heap_setCell w5 ⟨gk2, i, none⟩ _ p.block (by show p.block ≠ gk2; omega))
          exact RdI.below h1 (b6.mono (by omega))
        have ch := (blkh6.cell i).trans hq2
        have fh := blkh6.frozen i
        generalize h0s.getD i 0 = hx0 at seth ⊢
        have BK6 := Lib.hid blkk6
        have BH6 := Lib.hid blkh6
        have B06 := Lib.hid blk06
        have BEL6 := Lib.hid bel6
        have RD6 := Lib.hid rd6
        clear b6 blkk6 blkh6 blk06 bel6 rd6 e6 ck fk hbl5 BK5 BH5 B05 BEL5 RD5 setk hq hq2 hcl
        go_wp2_with fail
        refine ⟨⟨i + 1, by omega, by simp, BK6.out.other (by omega) _, ?_, B06.out.other (by omega) _, ?_, BEL6.out.setCell (p := ⟨gk2 + 1, i, none⟩) (by show w.heap.size ≤ gk2 + 1; omega) _⟩, by simp [intOf]; omega⟩
        · rw [HM2.out, ← seth.out]
          exact BH6.out.store i _
        · exact Rd.keep RD6.out fun p hp => World.cell?_of_block (Below.heap_setCell w6 ⟨gk2 + 1, i, none⟩ _ p.block (by show p.block ≠ gk2 + 1; omega))
      · have hmin : min i 8 = 8 := by omega
        have hmin2 : min (i + 1) 8 = 8 := by omega
        rw [hmin] at blkh5
        have BK5 := Lib.hid blkk5
        have BH5 := Lib.hid blkh5
        have B05 := Lib.hid blk05
        have BEL5 := Lib.hid bel5
        have RD5 := Lib.hid rd5
        have HM2 := Lib.hid hmin2
        clear b5 blkk5 blkh5 blk05 bel5 rd5 hmin hmin2 hbl5 hq hcl
        go_wp2_with fail
        refine ⟨⟨i + 1, by omega, by simp, ?_, by rw [HM2.out]; exact BH5.out.other (by omega) _, B05.out.other (by omega) _, ?_, BEL5.out.setCell (p := ⟨gk2, i, none⟩) (by show w.heap.size ≤ gk2; omega) _⟩, by simp [intOf]; omega⟩
        · rw [← setk.out]
          exact BK5.out.store i _
        · exact Rd.keep RD5.out fun p hp => World.cell?_of_block (Below.heap_setCell w5 ⟨gk2, i, none⟩ _ p.block (by show p.block ≠ gk2; omega))
    · obtain rfl : i = 64 := by omega
      rw [show min 64 8 = 8 from rfl, fillW_all h0s 8 h0s_len] at blkh
      rw [fillW_all ks 64 ks_len] at blkk
      have B0 := Lib.hid blk0
      have BEL := Lib.hid bel
      clear rd blk0 bel hlt hi
      go_wp2_with (first
        | (refine wpList_load_row' rfl 84 _ rfl gk2 84 (wcells ks) rfl blkk 64 26 Try.underlying84 (by rw [wcells_size, ks_len, size64]) ?_)
        | (refine wpList_load_row' rfl 85 _ rfl (gk2 + 1) 85 (wcells h0s) rfl blkh 8 26 Try.underlying85 (by rw [wcells_size, h0s_len, size8]) ?_))
      refine (refDigest_any A n c D b wr HN.out (HR.out.below (BEL.out.mono hD)) (by omega) hL).mono ?_
      rintro e w5 ⟨rfl, b5⟩
      have blk5 := B0.out.below b5 hlt0
      have bel5 := BEL.out.trans (b5.mono hsz)
      clear b5 blkk blkh
      go_wp2_with (refine wpList_store_row rfl 64 _ _ rfl w.heap.size 64 (bcells z32) (bcells (sha b)) rfl rfl blk5 (store_res b) (bcells_one _) (by rw [bcells_size, HML.out, size32]) ?_; intro w9 blk9 g9 sz9)
      have hl := load_row w9 64 w.heap.size 64 (bcells (sha b)) blk9 32 5 Try.underlying64 (by rw [bcells_size, HML.out, size32])
      refine bodyPost_ret (v := .agg (bcells (sha b))) (by simp [results, Try.results44, Act.put, asAddr, hl]) rfl ⟨rfl, bel5.grown g9 bel5.size (fun k hk => by injection hk with e; omega)⟩

end Go.Proofs.Ytehhgfkbcjbciaa
