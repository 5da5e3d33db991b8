/- stillroomref1.digest at the constants. -/
import Derived.Test.YtehhgfkbcjbciaaShaSum
import Derived.Test.YtehhgfkbcjbciaaShaParts
import Derived.Test.YtehhgfkbcjbciaaMac1
import Derived.Deep.Cut
namespace Go.Proofs.Ytehhgfkbcjbciaa
open Go.RowKit

/-- what stands while blocks are mixed in -/
structure Dig (w wr : World) (gc gh g0 : Nat) (H : List W32) (v : Value) (T : List UInt8) : Prop where
  k : Blk wr gc 84 (wcells ks)
  h : Blk wr gh 85 (wcells H)
  r : Blk wr g0 64 (bcells z32)
  own : OwnB wr w.heap.size v T
  bel : Below w.heap.size w wr

theorem Dig.alloc {w wr : World} {gc gh g0 : Nat} {H : List W32} {v : Value} {T : List UInt8} (d : Dig w wr gc gh g0 H v T) (o : Obj) : Dig w (wr.alloc o) gc gh g0 H v T :=
  ⟨d.k.alloc o, d.h.alloc o, d.r.alloc o, d.own.alloc o, d.bel.alloc d.bel.size o⟩

theorem Dig.drew {w wr : World} {gc gh g0 : Nat} {H : List W32} {v : Value} {T : List UInt8} (d : Dig w wr gc gh g0 H v T) : Dig w wr.drew gc gh g0 H v T :=
  ⟨d.k, d.h, d.r, d.own, d.bel.drew⟩

theorem Dig.below {w wr w' : World} {gc gh g0 : Nat} {H : List W32} {v : Value} {T : List UInt8} (d : Dig w wr gc gh g0 H v T) (b : Below wr.heap.size wr w') : Dig w w' gc gh g0 H v T :=
  ⟨d.k.below b d.k.lt, d.h.below b d.h.lt, d.r.below b d.r.lt, d.own.below b, d.bel.trans (b.mono d.bel.size)⟩

/-- the text is appended to -/
theorem Dig.app {w wr w' : World} {gc gh g0 : Nat} {H : List W32} {v v' : Value} {T T' : List UInt8} (d : Dig w wr gc gh g0 H v T) (g : wr.grownBy w' v.ownBlock) (o : OwnB w' w.heap.size v' T') : Dig w w' gc gh g0 H v' T' :=
  ⟨d.k.grown g (d.own.ne d.k (by decide)), d.h.grown g (d.own.ne d.h (by decide)), d.r.grown g (d.own.ne d.r (by decide)), o, d.bel.grown g d.bel.size (fun k hk => (World.ownsRow.lt d.own k hk).1)⟩

/-- another block is written -/
theorem Dig.grown {w wr w' : World} {gc gh g0 g : Nat} {H : List W32} {v : Value} {T : List UInt8} {t : TypeId} {cs : Array Value} (d : Dig w wr gc gh g0 H v T) (hb : Blk wr g t cs) (ht : t ≠ 5) (b : wr.grownBy w' (some g)) (h1 : g ≠ gc) (h2 : g ≠ gh) (h3 : g ≠ g0) (hg : w.heap.size ≤ g) : Dig w w' gc gh g0 H v T :=
  ⟨d.k.grown b (fun e => h1 (by injection e)), d.h.grown b (fun e => h2 (by injection e)), d.r.grown b (fun e => h3 (by injection e)), d.own.kept b (.inr (d.own.ne hb ht)), d.bel.grown b d.bel.size (fun k hk => by injection hk with e; omega)⟩

theorem set_grown (w : World) (g j : Nat) (x : Value) : w.grownBy (w.setCell ⟨g, j, none⟩ x) (some g) :=
  ⟨rfl, rfl, rfl, by simp, fun k _ hne => Below.heap_setCell w ⟨g, j, none⟩ x k (fun e => hne (by rw [e]))⟩

theorem Dig.set {w wr : World} {gc gh g0 g : Nat} {H : List W32} {v : Value} {T : List UInt8} {t : TypeId} {cs : Array Value} (d : Dig w wr gc gh g0 H v T) (hb : Blk wr g t cs) (ht : t ≠ 5) (h1 : g ≠ gc) (h2 : g ≠ gh) (h3 : g ≠ g0) (hg : w.heap.size ≤ g) (j : Nat) (x : Value) : Dig w (wr.setCell ⟨g, j, none⟩ x) gc gh g0 H v T :=
  d.grown hb ht (set_grown wr g j x) h1 h2 h3 hg

/-- a word of the state is written -/
theorem Dig.word {w wr : World} {gc gh g0 : Nat} {H H' : List W32} {v : Value} {T : List UInt8} (d : Dig w wr gc gh g0 H v T) (h1 : gh ≠ gc) (h3 : gh ≠ g0) (hg : w.heap.size ≤ gh) (k : Nat) (x : W32) (hH : H.set k x = H') : Dig w (wr.setCell ⟨gh, k, none⟩ (.int .u32 (U x))) gc gh g0 H' v T := by
  have e : (wcells H).setIfInBounds k (.int .u32 (U x)) = wcells H' := by
    subst hH
    unfold wcells
    rw [List.setIfInBounds_toArray, List.map_set]
    rfl
  have b := set_grown wr gh k (.int .u32 (U x))
  exact ⟨d.k.grown b (fun e => h1 (by injection e)), by rw [← e]; exact d.h.store k _, d.r.grown b (fun e => h3 (by injection e)), d.own.kept b (.inr (d.own.ne d.h (by decide))), d.bel.grown b d.bel.size (fun k hk => by injection hk with e; omega)⟩

theorem word_of (l : List UInt8) : (get l : Int) % 4294967296 = U (BitVec.ofNat 32 (get l)) := by
  unfold U
  rw [BitVec.toNat_ofNat]
  omega

theorem word_at (T : List UInt8) (j k : Nat) (hk : k < 16) : BitVec.ofNat 32 (get ((T.drop (64 * j + 4 * k)).take 4)) = word ((T.drop (64 * j)).take 64) k := by
  unfold word
  rw [List.drop_take, List.drop_drop, List.take_take, Nat.min_eq_left (by omega)]

theorem sg0_val (x : W32) : bits .xor .u32 (bits .xor .u32 (U (rotr x 7)) (U (rotr x 18))) (U x / 8) = U (sg0 x) := by
  have s3 := U_shr x 3
  rw [show (((2 : Nat) ^ 3 : Nat) : Int) = 8 from by decide] at s3
  rw [s3, U_xor, U_xor]
  rfl

theorem sg1_val (x : W32) : bits .xor .u32 (bits .xor .u32 (U (rotr x 17)) (U (rotr x 19))) (U x / 1024) = U (sg1 x) := by
  have s3 := U_shr x 10
  rw [show (((2 : Nat) ^ 10 : Nat) : Int) = 1024 from by decide] at s3
  rw [s3, U_xor, U_xor]
  rfl

/-- the digest is given -/
def Shad (w : World) (b : List UInt8) (e : Ending) (w' : World) : Prop := e = .returned (.agg (bcells (sha b))) ∧ Below w.heap.size w w'

theorem outK_copy (S : List W32) (hl : S.length = 8) (k : Nat) (hk : k < 8) : (outK S k).take (4 * k) ++ put (S.getD k 0).toNat 4 ++ (outK S k).drop (4 * k + 4) = outK S (k + 1) := by
  have h1 := out_len S k (by omega)
  have e : S.take (k + 1) = S.take k ++ [S.getD k 0] := by
    rw [List.take_succ_eq_append_getElem (by omega), List.getD_eq_getElem?_getD, List.getElem?_eq_getElem (by omega)]
    rfl
  unfold outK
  rw [e, List.flatMap_append]
  generalize (S.take k).flatMap (fun x => put x.toNat 4) = P at h1
  rw [List.take_left' h1, List.drop_append, List.drop_eq_nil_of_le (by omega), List.nil_append, List.drop_replicate, h1, show 32 - 4 * k - (4 * k + 4 - 4 * k) = 32 - 4 * (k + 1) from by omega]
  simp

theorem bcells_copy (l cs : List UInt8) (o : Nat) : ((bcells l).toList.take o ++ cs.map B ++ (bcells l).toList.drop (o + (cs.map B).length)).toArray = bcells (l.take o ++ cs ++ l.drop (o + cs.length)) := by
  simp [bcells, List.map_take, List.map_drop]

theorem run_back32 (w : World) (g k : Nat) (hk : k < 8) (K : Int) (hK : K = 4 * (k : Int)) : (Instr.sliceAt 64 (.pointer (some ⟨g, 0, none⟩)) (some (.int .i64 K)) none none).run Try.prog w = .ok (.slice (some ⟨g, 4 * k, none⟩) (32 - 4 * k) (32 - 4 * k)) w := by
  subst hK
  have hs : Try.prog.underlying 64 = some (.array 32 5) := Try.underlying64
  have h1 : ∀ w, (sizeOf 5).run Try.prog w = .ok 1 w := fun _ => by kernel_rfl
  have h2 := run_sliceBound (P := Try.prog) w .i64 (4 * (k : Int)) 32 .sliceB (by omega) (by omega)
  have h3 : (4 * (k : Int)).toNat = 4 * k := by omega
  have h4 : ¬ 32 = 4 * k := by omega
  simp [Instr.sliceAt, Instr.sureAddr, run_underlying hs, Instr.sliceBounds, h1, h2, h3, h4, add_flat]

theorem widen (x : W32) : IntKind.u64.wrap (U x) = ((x.toNat : Nat) : Int) := by
  have := x.isLt
  rw [IntKind.wrap_u64]
  unfold U
  omega

set_option maxRecDepth 100000 in
set_option maxHeartbeats 8000000 in
theorem refDigest_any (A : Option Addr) (n c D : Nat) (b : List UInt8) (w : World) (hn : n = b.length) (hr : RdB w D A b) (hD : D ≤ w.heap.size) (hL : (n : Int) ≤ 10000) :
    Calls Try.prog 62 #[.slice A n c, .agg (wcells ks), .agg (wcells h0s)] w (Shad w b) := by
  have HN := Lib.hid hn
  have HR := Lib.hid hr
  clear hr hn
  go_enter Try.func62, Try.ntmps62
  have blkk := Blk.new w 84 (wcells ks)
  have blkh := Blk.new (w.alloc (.cells (wcells ks) 84)) 85 (wcells h0s)
  have blkr := Blk.new ((w.alloc (.cells (wcells ks) 84)).alloc (.cells (wcells h0s) 85)) 64 (bcells z32)
  go_upto_region 1 with (refine wpList_alloc_row rfl 64 rfl (bcells z32) zero32 ?_)
  have bel0 : Below w.heap.size w (((w.alloc (.cells (wcells ks) 84)).alloc (.cells (wcells h0s) 85)).alloc (.cells (bcells z32) 64)) := (((Below.refl w.heap.size w).alloc (Nat.le_refl _) _).alloc (by simp) _).alloc (by simp; omega) _
  have blkk' := (blkk.alloc (.cells (wcells h0s) 85)).alloc (.cells (bcells z32) 64)
  have blkh' := blkh.alloc (.cells (bcells z32) 64)
  have e1 : (w.alloc (.cells (wcells ks) 84)).heap.size = w.heap.size + 1 := by simp
  have e2 : ((w.alloc (.cells (wcells ks) 84)).alloc (.cells (wcells h0s) 85)).heap.size = w.heap.size + 1 + 1 := by simp
  rw [e1] at blkh'
  rw [e2] at blkr
  clear e1 e2 blkk blkh
  generalize ((w.alloc (.cells (wcells ks) 84)).alloc (.cells (wcells h0s) 85)).alloc (.cells (bcells z32) 64) = w1 at *
  have BLKK := Lib.hid blkk'
  have BLKH := Lib.hid blkh'
  have BLKR := Lib.hid blkr
  have BEL0 := Lib.hid bel0
  have hs1 := bel0.size
  have lt1 := blkr.lt
  have hlen0 : ([] : List UInt8).length + b.length ≤ 140737488355328 := by have := HN.out; simp; omega
  have hlen1 : b.length + 1 ≤ 140737488355328 := by have := HN.out; omega
  have HLEN0 := Lib.hid hlen0
  have HLEN1 := Lib.hid hlen1
  have RD1 := Lib.hid (HR.out.below (bel0.mono hD))
  clear blkk' blkh' blkr bel0 hlen0 hlen1
  go_wp2_with (first
    | (at_builtin; refine wpList_append_u8 rfl (.const (.slice none 0 0)) (.tmp 24) rfl w.heap.size (.slice none 0 0) [] rfl (OwnB.nil _ _) D A n c b rfl HN.out RD1.out HLEN0.out hs1 ?_; intro v3 w3 own3 g3; rw [List.nil_append] at own3; have lt3 := g3.size; replace own3 := Lib.hid own3; replace g3 := Lib.hid g3)
    | (at_builtin; refine wpList_append_u8 rfl (.tmp 25) (.tmp 26) rfl w.heap.size v3 b rfl (own3.out.alloc _) (w3.heap.size + 1) (some ⟨w3.heap.size, 0, none⟩) 1 1 [128] rfl rfl (Rd.new w3 _ _ _) HLEN1.out (by simp; omega) ?_; intro v4 w4 own4 g4; replace own4 := Lib.hid own4; replace g4 := Lib.hid g4))
  have dig4 : Dig w w4 w.heap.size (w.heap.size + 1) (w.heap.size + 1 + 1) h0s v4 (b ++ [128]) := by
    have k3 := BLKK.out.grown g3.out (by simp [Value.ownBlock])
    have h3 := BLKH.out.grown g3.out (by simp [Value.ownBlock])
    have r3 := BLKR.out.grown g3.out (by simp [Value.ownBlock])
    have b3 := BEL0.out.grown g3.out hs1 (fun k hk => by simp [Value.ownBlock] at hk)
    have o3 := own3.out.alloc (.cells #[.int .u8 128] 5)
    exact ⟨(k3.alloc _).grown g4.out (o3.ne (k3.alloc _) (by decide)), (h3.alloc _).grown g4.out (o3.ne (h3.alloc _) (by decide)), (r3.alloc _).grown g4.out (o3.ne (r3.alloc _) (by decide)), own4.out, (b3.alloc b3.size _).grown g4.out (by have := b3.size; simp; omega) (fun k hk => (World.ownsRow.lt o3 k hk).1)⟩
  clear BLKK BLKH BLKR BEL0 RD1 HLEN0 HLEN1 own3 own4 g3 g4 lt3 lt1 hs1
  obtain ⟨g0, h0⟩ : ∃ g, g = w.heap.size + 1 + 1 := ⟨_, rfl⟩
  obtain ⟨gh, hh⟩ : ∃ g, g = w.heap.size + 1 := ⟨_, rfl⟩
  obtain ⟨gc, hk⟩ : ∃ g, g = w.heap.size := ⟨_, rfl⟩
  rw [← h0, ← hh, ← hk] at dig4 ⊢
  have ne1 : gc < gh := by omega
  have ne2 : gh < g0 := by omega
  have ge1 : w.heap.size ≤ gc := by omega
  replace h0 := Lib.hid h0
  replace hh := Lib.hid hh
  replace hk := Lib.hid hk
  have hp : (119 - b.length % 64) % 64 ≤ 63 := by omega
  go_loopg [7] ((119 - b.length % 64) % 64) (fun q v wr => ∃ j, j + q = (119 - b.length % 64) % 64 ∧ Dig w wr gc gh g0 h0s v (b ++ [128] ++ List.replicate j 0))
  case atStart => exact ⟨0, by omega, by simpa using dig4⟩
  case round =>
    clear dig4
    obtain ⟨j, hj, dig⟩ := hrel
    obtain ⟨A1, N1, n1, rfl, hN1, hn1, hm1, _⟩ := dig.own.slice'
    have hlen : N1 = b.length + 1 + j := by rw [hN1.out]; simp; omega
    have hnb := HN.out
    have DIG := Lib.hid dig
    have HJ := Lib.hid hj
    have hsz := dig.bel.size
    clear dig
    by_cases hlt : j < (119 - b.length % 64) % 64
    · have t1 : ¬ ((N1 : Int) % 64 = 56) := by omega
      have t2 : ((N1 : Int) % 64 != 56) = true := by simpa using t1
      have hb1 : (N1 : Int) ≤ 20000 := by omega
      have lx : (b ++ [128] ++ List.replicate j 0).length + 1 ≤ 140737488355328 := by rw [← hN1.out]; omega
      have LX := Lib.hid lx
      clear hlen lx hj hnb
      go_wp2_with (at_builtin; refine wpList_append_u8 rfl (.tmp 32) (.tmp 33) rfl w.heap.size _ (b ++ [128] ++ List.replicate j 0) rfl (DIG.out.own.alloc _) (wr.heap.size + 1) (some ⟨wr.heap.size, 0, none⟩) 1 1 [0] rfl rfl (Rd.new wr _ _ _) LX.out (by simp; omega) ?_; intro v2 w2 own2 g2; replace own2 := Lib.hid own2; replace g2 := Lib.hid g2)
      go_roundg (gk - 1)
      case measure => have := HJ.out; omega
      case rel =>
        refine ⟨j + 1, by have := HJ.out; omega, ?_⟩
        have e : b ++ [128] ++ List.replicate (j + 1) 0 = b ++ [128] ++ List.replicate j 0 ++ [0] := by rw [List.replicate_succ', ← List.append_assoc]
        rw [e]
        exact (DIG.out.alloc _).app g2.out own2.out
    · obtain rfl : j = (119 - b.length % 64) % 64 := by omega
      have t1 : (N1 : Int) % 64 = 56 := by omega
      have hb1 : (N1 : Int) ≤ 20000 := by omega
      obtain ⟨m8, hm8⟩ : ∃ m8, m8 = b.length * 8 := ⟨_, rfl⟩
      have e8 : (n : Int) * 8 = (m8 : Int) := by omega
      have M8 := Lib.hid hm8
      have hm8b : m8 < 18446744073709551616 := by omega
      have M8B := Lib.hid hm8b
      generalize hX : b ++ [128] ++ List.replicate ((119 - b.length % 64) % 64) 0 = X at DIG hN1
      have HX := Lib.hid hX
      clear hlt hj hlen hp hm8 hX hnb hm8b
      go_wp2_with fail
      refine (refPut8 m8 wr wr.heap.size M8B.out (Nat.le_refl _)).mono ?_
      rintro e w5 ⟨v5, rfl, own5, b5⟩
      have dig5 := DIG.out.below b5
      obtain ⟨A5, c5, rfl, _, _, rd5, _⟩ := own5.slice
      rw [put_len]
      have lx : X.length + (put m8 8).length ≤ 140737488355328 := by rw [← hN1.out, put_len]; omega
      have LX := Lib.hid lx
      have DIG5 := Lib.hid dig5
      have RD5 := Lib.hid rd5
      have hs5 := dig5.bel.size
      clear b5 dig5 own5 rd5 lx t1 e8
      go_wp2_with (at_builtin; refine wpList_append_u8 rfl (.tmp 35) (.tmp 40) rfl w.heap.size _ X rfl DIG5.out.own w5.heap.size A5 8 c5 (put m8 8) rfl (put_len _ _).symm RD5.out LX.out hs5 ?_; intro v6 w6 own6 g6; replace own6 := Lib.hid own6; replace g6 := Lib.hid g6)
      have hT : X ++ put m8 8 = padded b := by unfold padded; rw [← HX.out, M8.out]
      have hTl := padded_len b
      have hTb : (padded b).length ≤ 30000 := by rw [← hT, List.length_append, put_len, ← hN1.out]; omega
      have dig6 : Dig w w6 gc gh g0 h0s v6 (padded b) := by rw [← hT]; exact DIG5.out.app g6.out own6.out
      have hsha : sha b = (blocks h0s (padded b) ((padded b).length / 64)).flatMap fun x => put x.toNat 4 := rfl
      have SHA := Lib.hid hsha
      generalize padded b = T at *
      obtain ⟨Am, nm, cm, rfl, hnm, hcm, hxm, _⟩ := dig6.own.slice'
      have hmT := hnm.out
      clear own6 g6 DIG5 RD5 LX hsha hT M8 M8B HX hN1 DIG
      go_loopw [8] (fun i wr => ∃ j p : Nat, Hid (p = 64 * j) ∧ i = .int .i64 p ∧ p ≤ nm ∧ Dig w wr gc gh g0 (blocks h0s T j) (.slice Am nm cm) T) (fun i _ => nm - (intOf i).toNat)
      case atStart => exact ⟨0, 0, Lib.hid rfl, rfl, by omega, dig6⟩
      case round =>
        clear dig6
        obtain ⟨j, p, hpj, rfl, hpn, dig⟩ := hrel
        have HSl := blocks_len h0s T h0s_len j
        by_cases hlt : p < nm
        · have hp64 : p + 64 ≤ nm := by have := hpj.out; omega
          have hnmI : (nm : Int) ≤ 30000 := by omega
          obtain ⟨B, hB⟩ : ∃ B, B = (T.drop p).take 64 := ⟨_, rfl⟩
          have hBl : B.length = 64 := by rw [hB]; exact part_len T p 64 (by omega)
          generalize hHj : blocks h0s T j = Hj at dig HSl
          have HHJ := Lib.hid hHj
          have HB := Lib.hid hB
          have HBL := Lib.hid hBl
          have HSL := Lib.hid HSl
          have DIG := Lib.hid dig
          have HTL := Lib.hid hTl
          have HMT := Lib.hid hmT
          have HTB := Lib.hid hTb
          obtain ⟨wo, rfl⟩ : ∃ wo : World, wo = wr := ⟨_, rfl⟩
          have blk1 := Blk.new wo 84 (wcells z64)
          have dig1 := dig.alloc (.cells (wcells z64) 84)
          have hgw : w.heap.size ≤ wo.heap.size := dig.bel.size
          have n1 : wo.heap.size ≠ gc := by have := dig.k.lt; omega
          have n2 : wo.heap.size ≠ gh := by have := dig.h.lt; omega
          have n3 : wo.heap.size ≠ g0 := by have := dig.r.lt; omega
          have ltr := dig.r.lt
          clear hB hBl hHj HSl dig hTl hmT hTb
          go_wp2_with (refine wpList_alloc_row rfl 84 rfl (wcells z64) zero64 ?_)
          generalize wo.alloc (.cells (wcells z64) 84) = w7 at *
          generalize wo.heap.size = gw at *
          go_loopw [10] (fun i wr => ∃ k : Nat, k ≤ 16 ∧ i = .int .i64 k ∧ Blk wr gw 84 (wcells (tab B k)) ∧ Dig w wr gc gh g0 Hj (.slice Am nm cm) T) (fun i _ => 16 - (intOf i).toNat)
          case atStart => exact ⟨0, by omega, rfl, by rw [tab_zero]; exact blk1, dig1⟩
          case round =>
            clear blk1 dig1
            obtain ⟨k, hk, rfl, blk, dig⟩ := hrel
            by_cases hlt2 : k < 16
            ·
              have rdT : RdB wr wr.heap.size Am T := by
                obtain ⟨A', c', hv, _, _, h4, _⟩ := dig.own.slice
                injection hv with h1
                rw [h1]; exact h4
              obtain ⟨A3, hA3, r3⟩ := rdT.piece (p + 4 * k) (p + 4 * k + 4) cm (by omega) (by rw [← HMT.out]; omega) (by rw [← HMT.out]; exact hcm)
              have e4 : p + 4 * k + 4 - (p + 4 * k) = 4 := by omega
              rw [e4] at hA3 r3
              generalize cm - (p + 4 * k) = c3 at hA3
              have hl4 : ((T.drop (p + 4 * k)).take 4).length = 4 := part_len T _ 4 (by rw [← HMT.out]; omega)
              have hv := word_of ((T.drop (p + 4 * k)).take 4)
              have hw : BitVec.ofNat 32 (get ((T.drop (p + 4 * k)).take 4)) = word B k := by rw [HB.out, hpj.out]; exact word_at T j k hlt2
              rw [hw] at hv
              generalize hL4 : (T.drop (p + 4 * k)).take 4 = L4 at r3 hl4 hv
              have hset := tab_set B k (by omega) (word B k) (by simp [sched, hlt2])
              generalize hwk : word B k = wk at hv hset
              have HA3 := Lib.hid hA3
              have R3 := Lib.hid r3
              have HL4 := Lib.hid hl4
              have HSET := Lib.hid hset
              have cw := (blk.cell k).trans (tab_next B k (by omega))
              have fw := blk.frozen k
              have hkI : (k : Int) < 64 := by omega
              have hlo : p + 4 * k ≤ p + 4 * k + 4 := by omega
              have hhi : p + 4 * k + 4 ≤ cm := by omega
              have BLK := Lib.hid blk
              have DIG2 := Lib.hid dig
              clear hA3 r3 hl4 hset blk dig rdT hw e4 hL4 hwk
              go_upto_region 12 with fail
              go_wp2_with (refine wpList_piece_u8 rfl (.tmp 53) (.tmp 57) (.tmp 62) rfl Am nm cm (p + 4 * k) (p + 4 * k + 4) rfl rfl rfl hlo hhi ?_; rw [HA3.out])
              refine (refGetN A3 c3 4 L4 wr wr.heap.size R3.out HL4.out (by omega)).mono ?_
              rintro e w' ⟨rfl, rfl⟩
              go_wp2_with fail
              refine ⟨⟨k + 1, by omega, by simp, ?_, DIG2.out.set BLK.out (by decide) n1 n2 n3 hgw k _⟩, by simp [intOf]; omega⟩
              rw [← HSET.out]
              exact BLK.out.store k _
            · obtain rfl : k = 16 := by omega
              clear hlt2
              go_wp2_with fail
              clear hk
              go_loopw [11] (fun i wr => ∃ k : Nat, 16 ≤ k ∧ k ≤ 64 ∧ i = .int .i64 k ∧ Blk wr gw 84 (wcells (tab B k)) ∧ Dig w wr gc gh g0 Hj (.slice Am nm cm) T) (fun i _ => 64 - (intOf i).toNat)
              case atStart => exact ⟨16, by omega, by omega, rfl, blk, dig⟩
              case round =>
                clear blk dig
                obtain ⟨k, hk, hk', rfl, blk, dig⟩ := hrel
                by_cases hlt2 : k < 64
                ·
                  have e15 : IntKind.i64.wrap ((k : Int) - 15) = (k : Int) - 15 := by rw [IntKind.wrap_i64]; omega
                  have e2 : IntKind.i64.wrap ((k : Int) - 2) = (k : Int) - 2 := by rw [IntKind.wrap_i64]; omega
                  have e16 : IntKind.i64.wrap ((k : Int) - 16) = (k : Int) - 16 := by rw [IntKind.wrap_i64]; omega
                  have e7 : IntKind.i64.wrap ((k : Int) - 7) = (k : Int) - 7 := by rw [IntKind.wrap_i64]; omega
                  have l15 : (15 : Int) ≤ (k : Int) := by omega
                  have l2 : (2 : Int) ≤ (k : Int) := by omega
                  have l16 : (16 : Int) ≤ (k : Int) := by omega
                  have l7 : (7 : Int) ≤ (k : Int) := by omega
                  have u15 : (k : Int) - 15 < 64 := by omega
                  have u2 : (k : Int) - 2 < 64 := by omega
                  have u16 : (k : Int) - 16 < 64 := by omega
                  have u7 : (k : Int) - 7 < 64 := by omega
                  have n15 : ((k : Int) - 15).toNat = k - 15 := by omega
                  have n2' : ((k : Int) - 2).toNat = k - 2 := by omega
                  have n16 : ((k : Int) - 16).toNat = k - 16 := by omega
                  have n7 : ((k : Int) - 7).toNat = k - 7 := by omega
                  have hk64 : (k : Int) < 64 := by omega
                  have c15 := (blk.cell (k - 15)).trans (tab_at B k (k - 15) (by omega))
                  have c2 := (blk.cell (k - 2)).trans (tab_at B k (k - 2) (by omega))
                  have c16 := (blk.cell (k - 16)).trans (tab_at B k (k - 16) (by omega))
                  have c7 := (blk.cell (k - 7)).trans (tab_at B k (k - 7) (by omega))
                  have cw := (blk.cell k).trans (tab_next B k hlt2)
                  have fw := blk.frozen k
                  generalize hx15 : (sched B k).getD (k - 15) 0 = x15 at c15
                  generalize hx2 : (sched B k).getD (k - 2) 0 = x2 at c2
                  generalize hx16 : (sched B k).getD (k - 16) 0 = x16 at c16
                  generalize hx7 : (sched B k).getD (k - 7) 0 = x7 at c7
                  have H15 := Lib.hid hx15
                  have H2 := Lib.hid hx2
                  have H16 := Lib.hid hx16
                  have H7 := Lib.hid hx7
                  have Blk1 := Lib.hid blk
                  have DIG2 := Lib.hid dig
                  clear hx15 hx2 hx16 hx7 blk dig
                  go_wp2_with fail
                  refine any_begin (fun w' => w'.cell? ⟨gw, k - 15, none⟩ = some (.int .u32 (U x15))) (by kernel_rfl) c15 (fun hS0 => ?_)
                  refine any_take 0 (v := ?_) rfl rfl (by kernel_rfl) (by kernel_rfl) (by kernel_rfl) (fun _ _ _ h => h) hS0 ?_ ?_
                  rotate_left
                  · (intro w' hSw; (try dsimp only at hSw); go_simp; first | done | with_reducible rfl)
                  try simp only [Act.put, List.setIfInBounds_toArray, List.set_cons_zero, List.set_cons_succ]
                  refine any_take 1 (v := ?_) rfl rfl (by kernel_rfl) (by kernel_rfl) (by kernel_rfl) (fun _ _ _ h => h) hS0 ?_ ?_
                  rotate_left
                  · (intro w' hSw; (try dsimp only at hSw); go_simp; first | done | with_reducible rfl)
                  try simp only [Act.put, List.setIfInBounds_toArray, List.set_cons_zero, List.set_cons_succ]
                  refine any_take 2 (v := ?_) rfl rfl (by kernel_rfl) (by kernel_rfl) (by kernel_rfl) (fun _ _ _ h => h) hS0 ?_ ?_
                  rotate_left
                  · (intro w' hSw; (try dsimp only at hSw); go_simp; first | done | with_reducible rfl)
                  try simp only [Act.put, List.setIfInBounds_toArray, List.set_cons_zero, List.set_cons_succ]
                  refine any_take 3 (v := ?_) rfl rfl (by kernel_rfl) (by kernel_rfl) (by kernel_rfl) (fun _ _ _ h => h) hS0 ?_ ?_
                  rotate_left
                  · (intro w' hSw; (try dsimp only at hSw); go_simp; first | done | with_reducible rfl)
                  try simp only [Act.put, List.setIfInBounds_toArray, List.set_cons_zero, List.set_cons_succ]
                  refine any_call 4 (v := ?_) (f := ?_) (args := ?_) rfl rfl (by kernel_rfl) (by kernel_rfl) (by kernel_rfl) (fun _ _ _ h => h) hS0 ?_ ?_ ?_
                  rotate_left 3
                  · (intro w' hSw; (try dsimp only at hSw); go_simp; first | done | (constructor <;> with_reducible rfl) | with_reducible rfl)
                  · (intro w' hw; exact turn7 x15 w')
                  try simp only [Act.put, List.setIfInBounds_toArray, List.set_cons_zero, List.set_cons_succ]
                  refine any_take 5 (v := ?_) rfl rfl (by kernel_rfl) (by kernel_rfl) (by kernel_rfl) (fun _ _ _ h => h) hS0 ?_ ?_
                  rotate_left
                  · (intro w' hSw; (try dsimp only at hSw); go_simp; first | done | with_reducible rfl)
                  try simp only [Act.put, List.setIfInBounds_toArray, List.set_cons_zero, List.set_cons_succ]
                  refine any_take 6 (v := ?_) rfl rfl (by kernel_rfl) (by kernel_rfl) (by kernel_rfl) (fun _ _ _ h => h) hS0 ?_ ?_
                  rotate_left
                  · (intro w' hSw; (try dsimp only at hSw); go_simp; first | done | with_reducible rfl)
                  try simp only [Act.put, List.setIfInBounds_toArray, List.set_cons_zero, List.set_cons_succ]
                  refine any_take 7 (v := ?_) rfl rfl (by kernel_rfl) (by kernel_rfl) (by kernel_rfl) (fun _ _ _ h => h) hS0 ?_ ?_
                  rotate_left
                  · (intro w' hSw; (try dsimp only at hSw); go_simp; first | done | with_reducible rfl)
                  try simp only [Act.put, List.setIfInBounds_toArray, List.set_cons_zero, List.set_cons_succ]
                  refine any_take 8 (v := ?_) rfl rfl (by kernel_rfl) (by kernel_rfl) (by kernel_rfl) (fun _ _ _ h => h) hS0 ?_ ?_
                  rotate_left
                  · (intro w' hSw; (try dsimp only at hSw); go_simp; first | done | with_reducible rfl)
                  try simp only [Act.put, List.setIfInBounds_toArray, List.set_cons_zero, List.set_cons_succ]
                  refine any_call 9 (v := ?_) (f := ?_) (args := ?_) rfl rfl (by kernel_rfl) (by kernel_rfl) (by kernel_rfl) (fun _ _ _ h => h) hS0 ?_ ?_ ?_
                  rotate_left 3
                  · (intro w' hSw; (try dsimp only at hSw); go_simp; first | done | (constructor <;> with_reducible rfl) | with_reducible rfl)
                  · (intro w' hw; exact turn18 x15 w')
                  try simp only [Act.put, List.setIfInBounds_toArray, List.set_cons_zero, List.set_cons_succ]
                  refine any_take 10 (v := ?_) rfl rfl (by kernel_rfl) (by kernel_rfl) (by kernel_rfl) (fun _ _ _ h => h) hS0 ?_ ?_
                  rotate_left
                  · (intro w' hSw; (try dsimp only at hSw); go_simp; first | done | with_reducible rfl)
                  try simp only [Act.put, List.setIfInBounds_toArray, List.set_cons_zero, List.set_cons_succ]
                  refine any_take 11 (v := ?_) rfl rfl (by kernel_rfl) (by kernel_rfl) (by kernel_rfl) (fun _ _ _ h => h) hS0 ?_ ?_
                  rotate_left
                  · (intro w' hSw; (try dsimp only at hSw); go_simp; first | done | with_reducible rfl)
                  try simp only [Act.put, List.setIfInBounds_toArray, List.set_cons_zero, List.set_cons_succ]
                  refine any_take 12 (v := ?_) rfl rfl (by kernel_rfl) (by kernel_rfl) (by kernel_rfl) (fun _ _ _ h => h) hS0 ?_ ?_
                  rotate_left
                  · (intro w' hSw; (try dsimp only at hSw); go_simp; first | done | with_reducible rfl)
                  try simp only [Act.put, List.setIfInBounds_toArray, List.set_cons_zero, List.set_cons_succ]
                  refine any_take 13 (v := ?_) rfl rfl (by kernel_rfl) (by kernel_rfl) (by kernel_rfl) (fun _ _ _ h => h) hS0 ?_ ?_
                  rotate_left
                  · (intro w' hSw; (try dsimp only at hSw); go_simp; first | done | with_reducible rfl)
                  try simp only [Act.put, List.setIfInBounds_toArray, List.set_cons_zero, List.set_cons_succ]
                  refine any_take 14 (v := ?_) rfl rfl (by kernel_rfl) (by kernel_rfl) (by kernel_rfl) (fun _ _ _ h => h) hS0 ?_ ?_
                  rotate_left
                  · (intro w' hSw; (try dsimp only at hSw); go_simp; first | done | with_reducible rfl)
                  try simp only [Act.put, List.setIfInBounds_toArray, List.set_cons_zero, List.set_cons_succ]
                  refine any_take 15 (v := ?_) rfl rfl (by kernel_rfl) (by kernel_rfl) (by kernel_rfl) (fun _ _ _ h => h) hS0 ?_ ?_
                  rotate_left
                  · (intro w' hSw; (try dsimp only at hSw); go_simp; first | done | with_reducible rfl)
                  try simp only [Act.put, List.setIfInBounds_toArray, List.set_cons_zero, List.set_cons_succ]
                  refine any_take 16 (v := .int .u32 (U (sg0 x15))) rfl rfl (by kernel_rfl) (by kernel_rfl) (by kernel_rfl) (fun _ _ _ h => h) hS0 (fun w' hw => ?_) ?_
                  · (have hrun := sg0_val x15; clear hw; go_simp)
                  try simp only [Act.put, List.setIfInBounds_toArray, List.set_cons_zero, List.set_cons_succ]
                  refine any_take 17 (v := ?_) rfl rfl (by kernel_rfl) (by kernel_rfl) (by kernel_rfl) (fun _ _ _ h => h) hS0 ?_ ?_
                  rotate_left
                  · (intro w' hSw; (try dsimp only at hSw); go_simp; first | done | with_reducible rfl)
                  try simp only [Act.put, List.setIfInBounds_toArray, List.set_cons_zero, List.set_cons_succ]
                  refine any_done (by kernel_rfl) (NoPanic.normal ?_)
                  clear hS0
                  go_wp2_with fail
                  refine any_begin (fun w' => w'.cell? ⟨gw, k - 2, none⟩ = some (.int .u32 (U x2))) (by kernel_rfl) c2 (fun hS0 => ?_)
                  refine any_take 0 (v := ?_) rfl rfl (by kernel_rfl) (by kernel_rfl) (by kernel_rfl) (fun _ _ _ h => h) hS0 ?_ ?_
                  rotate_left
                  · (intro w' hSw; (try dsimp only at hSw); go_simp; first | done | with_reducible rfl)
                  try simp only [Act.put, List.setIfInBounds_toArray, List.set_cons_zero, List.set_cons_succ]
                  refine any_take 1 (v := ?_) rfl rfl (by kernel_rfl) (by kernel_rfl) (by kernel_rfl) (fun _ _ _ h => h) hS0 ?_ ?_
                  rotate_left
                  · (intro w' hSw; (try dsimp only at hSw); go_simp; first | done | with_reducible rfl)
                  try simp only [Act.put, List.setIfInBounds_toArray, List.set_cons_zero, List.set_cons_succ]
                  refine any_take 2 (v := ?_) rfl rfl (by kernel_rfl) (by kernel_rfl) (by kernel_rfl) (fun _ _ _ h => h) hS0 ?_ ?_
                  rotate_left
                  · (intro w' hSw; (try dsimp only at hSw); go_simp; first | done | with_reducible rfl)
                  try simp only [Act.put, List.setIfInBounds_toArray, List.set_cons_zero, List.set_cons_succ]
                  refine any_take 3 (v := ?_) rfl rfl (by kernel_rfl) (by kernel_rfl) (by kernel_rfl) (fun _ _ _ h => h) hS0 ?_ ?_
                  rotate_left
                  · (intro w' hSw; (try dsimp only at hSw); go_simp; first | done | with_reducible rfl)
                  try simp only [Act.put, List.setIfInBounds_toArray, List.set_cons_zero, List.set_cons_succ]
                  refine any_call 4 (v := ?_) (f := ?_) (args := ?_) rfl rfl (by kernel_rfl) (by kernel_rfl) (by kernel_rfl) (fun _ _ _ h => h) hS0 ?_ ?_ ?_
                  rotate_left 3
                  · (intro w' hSw; (try dsimp only at hSw); go_simp; first | done | (constructor <;> with_reducible rfl) | with_reducible rfl)
                  · (intro w' hw; exact turn17 x2 w')
                  try simp only [Act.put, List.setIfInBounds_toArray, List.set_cons_zero, List.set_cons_succ]
                  refine any_take 5 (v := ?_) rfl rfl (by kernel_rfl) (by kernel_rfl) (by kernel_rfl) (fun _ _ _ h => h) hS0 ?_ ?_
                  rotate_left
                  · (intro w' hSw; (try dsimp only at hSw); go_simp; first | done | with_reducible rfl)
                  try simp only [Act.put, List.setIfInBounds_toArray, List.set_cons_zero, List.set_cons_succ]
                  refine any_take 6 (v := ?_) rfl rfl (by kernel_rfl) (by kernel_rfl) (by kernel_rfl) (fun _ _ _ h => h) hS0 ?_ ?_
                  rotate_left
                  · (intro w' hSw; (try dsimp only at hSw); go_simp; first | done | with_reducible rfl)
                  try simp only [Act.put, List.setIfInBounds_toArray, List.set_cons_zero, List.set_cons_succ]
                  refine any_take 7 (v := ?_) rfl rfl (by kernel_rfl) (by kernel_rfl) (by kernel_rfl) (fun _ _ _ h => h) hS0 ?_ ?_
                  rotate_left
                  · (intro w' hSw; (try dsimp only at hSw); go_simp; first | done | with_reducible rfl)
                  try simp only [Act.put, List.setIfInBounds_toArray, List.set_cons_zero, List.set_cons_succ]
                  refine any_take 8 (v := ?_) rfl rfl (by kernel_rfl) (by kernel_rfl) (by kernel_rfl) (fun _ _ _ h => h) hS0 ?_ ?_
                  rotate_left
                  · (intro w' hSw; (try dsimp only at hSw); go_simp; first | done | with_reducible rfl)
                  try simp only [Act.put, List.setIfInBounds_toArray, List.set_cons_zero, List.set_cons_succ]
                  refine any_call 9 (v := ?_) (f := ?_) (args := ?_) rfl rfl (by kernel_rfl) (by kernel_rfl) (by kernel_rfl) (fun _ _ _ h => h) hS0 ?_ ?_ ?_
                  rotate_left 3
                  · (intro w' hSw; (try dsimp only at hSw); go_simp; first | done | (constructor <;> with_reducible rfl) | with_reducible rfl)
                  · (intro w' hw; exact turn19 x2 w')
                  try simp only [Act.put, List.setIfInBounds_toArray, List.set_cons_zero, List.set_cons_succ]
                  refine any_take 10 (v := ?_) rfl rfl (by kernel_rfl) (by kernel_rfl) (by kernel_rfl) (fun _ _ _ h => h) hS0 ?_ ?_
                  rotate_left
                  · (intro w' hSw; (try dsimp only at hSw); go_simp; first | done | with_reducible rfl)
                  try simp only [Act.put, List.setIfInBounds_toArray, List.set_cons_zero, List.set_cons_succ]
                  refine any_take 11 (v := ?_) rfl rfl (by kernel_rfl) (by kernel_rfl) (by kernel_rfl) (fun _ _ _ h => h) hS0 ?_ ?_
                  rotate_left
                  · (intro w' hSw; (try dsimp only at hSw); go_simp; first | done | with_reducible rfl)
                  try simp only [Act.put, List.setIfInBounds_toArray, List.set_cons_zero, List.set_cons_succ]
                  refine any_take 12 (v := ?_) rfl rfl (by kernel_rfl) (by kernel_rfl) (by kernel_rfl) (fun _ _ _ h => h) hS0 ?_ ?_
                  rotate_left
                  · (intro w' hSw; (try dsimp only at hSw); go_simp; first | done | with_reducible rfl)
                  try simp only [Act.put, List.setIfInBounds_toArray, List.set_cons_zero, List.set_cons_succ]
                  refine any_take 13 (v := ?_) rfl rfl (by kernel_rfl) (by kernel_rfl) (by kernel_rfl) (fun _ _ _ h => h) hS0 ?_ ?_
                  rotate_left
                  · (intro w' hSw; (try dsimp only at hSw); go_simp; first | done | with_reducible rfl)
                  try simp only [Act.put, List.setIfInBounds_toArray, List.set_cons_zero, List.set_cons_succ]
                  refine any_take 14 (v := ?_) rfl rfl (by kernel_rfl) (by kernel_rfl) (by kernel_rfl) (fun _ _ _ h => h) hS0 ?_ ?_
                  rotate_left
                  · (intro w' hSw; (try dsimp only at hSw); go_simp; first | done | with_reducible rfl)
                  try simp only [Act.put, List.setIfInBounds_toArray, List.set_cons_zero, List.set_cons_succ]
                  refine any_take 15 (v := ?_) rfl rfl (by kernel_rfl) (by kernel_rfl) (by kernel_rfl) (fun _ _ _ h => h) hS0 ?_ ?_
                  rotate_left
                  · (intro w' hSw; (try dsimp only at hSw); go_simp; first | done | with_reducible rfl)
                  try simp only [Act.put, List.setIfInBounds_toArray, List.set_cons_zero, List.set_cons_succ]
                  refine any_take 16 (v := .int .u32 (U (sg1 x2))) rfl rfl (by kernel_rfl) (by kernel_rfl) (by kernel_rfl) (fun _ _ _ h => h) hS0 (fun w' hw => ?_) ?_
                  · (have hrun := sg1_val x2; clear hw; go_simp)
                  try simp only [Act.put, List.setIfInBounds_toArray, List.set_cons_zero, List.set_cons_succ]
                  refine any_take 17 (v := ?_) rfl rfl (by kernel_rfl) (by kernel_rfl) (by kernel_rfl) (fun _ _ _ h => h) hS0 ?_ ?_
                  rotate_left
                  · (intro w' hSw; (try dsimp only at hSw); go_simp; first | done | with_reducible rfl)
                  try simp only [Act.put, List.setIfInBounds_toArray, List.set_cons_zero, List.set_cons_succ]
                  refine any_done (by kernel_rfl) (NoPanic.normal ?_)
                  clear hS0
                  go_wp2_with fail
                  refine any_begin (fun w' => w'.cell? ⟨gw, k - 16, none⟩ = some (.int .u32 (U x16)) ∧ w'.cell? ⟨gw, k - 7, none⟩ = some (.int .u32 (U x7))) (by kernel_rfl) ⟨c16, c7⟩ (fun hS0 => ?_)
                  refine any_take 0 (v := ?_) rfl rfl (by kernel_rfl) (by kernel_rfl) (by kernel_rfl) (fun _ _ _ h => h) hS0 ?_ ?_
                  rotate_left
                  · (intro w' hSw; (try dsimp only at hSw); go_simp; first | done | with_reducible rfl)
                  try simp only [Act.put, List.setIfInBounds_toArray, List.set_cons_zero, List.set_cons_succ]
                  refine any_take 1 (v := ?_) rfl rfl (by kernel_rfl) (by kernel_rfl) (by kernel_rfl) (fun _ _ _ h => h) hS0 ?_ ?_
                  rotate_left
                  · (intro w' hSw; (try dsimp only at hSw); go_simp; first | done | with_reducible rfl)
                  try simp only [Act.put, List.setIfInBounds_toArray, List.set_cons_zero, List.set_cons_succ]
                  refine any_take 2 (v := ?_) rfl rfl (by kernel_rfl) (by kernel_rfl) (by kernel_rfl) (fun _ _ _ h => h) hS0 ?_ ?_
                  rotate_left
                  · (intro w' hSw; (try dsimp only at hSw); go_simp; first | done | with_reducible rfl)
                  try simp only [Act.put, List.setIfInBounds_toArray, List.set_cons_zero, List.set_cons_succ]
                  refine any_take 3 (v := ?_) rfl rfl (by kernel_rfl) (by kernel_rfl) (by kernel_rfl) (fun _ _ _ h => h) hS0 ?_ ?_
                  rotate_left
                  · (intro w' hSw; (try dsimp only at hSw); go_simp; first | done | with_reducible rfl)
                  try simp only [Act.put, List.setIfInBounds_toArray, List.set_cons_zero, List.set_cons_succ]
                  refine any_take 4 (v := ?_) rfl rfl (by kernel_rfl) (by kernel_rfl) (by kernel_rfl) (fun _ _ _ h => h) hS0 ?_ ?_
                  rotate_left
                  · (intro w' hSw; (try dsimp only at hSw); go_simp; first | done | with_reducible rfl)
                  try simp only [Act.put, List.setIfInBounds_toArray, List.set_cons_zero, List.set_cons_succ]
                  refine any_take 5 (v := ?_) rfl rfl (by kernel_rfl) (by kernel_rfl) (by kernel_rfl) (fun _ _ _ h => h) hS0 ?_ ?_
                  rotate_left
                  · (intro w' hSw; (try dsimp only at hSw); go_simp; first | done | with_reducible rfl)
                  try simp only [Act.put, List.setIfInBounds_toArray, List.set_cons_zero, List.set_cons_succ]
                  refine any_take 6 (v := .int .u32 (U (x16 + sg0 x15))) rfl rfl (by kernel_rfl) (by kernel_rfl) (by kernel_rfl) (fun _ _ _ h => h) hS0 (fun w' hw => ?_) ?_
                  · (have hrun := U_add x16 (sg0 x15); clear hw; go_simp)
                  try simp only [Act.put, List.setIfInBounds_toArray, List.set_cons_zero, List.set_cons_succ]
                  refine any_take 7 (v := ?_) rfl rfl (by kernel_rfl) (by kernel_rfl) (by kernel_rfl) (fun _ _ _ h => h) hS0 ?_ ?_
                  rotate_left
                  · (intro w' hSw; (try dsimp only at hSw); go_simp; first | done | with_reducible rfl)
                  try simp only [Act.put, List.setIfInBounds_toArray, List.set_cons_zero, List.set_cons_succ]
                  refine any_take 8 (v := ?_) rfl rfl (by kernel_rfl) (by kernel_rfl) (by kernel_rfl) (fun _ _ _ h => h) hS0 ?_ ?_
                  rotate_left
                  · (intro w' hSw; (try dsimp only at hSw); go_simp; first | done | with_reducible rfl)
                  try simp only [Act.put, List.setIfInBounds_toArray, List.set_cons_zero, List.set_cons_succ]
                  refine any_take 9 (v := ?_) rfl rfl (by kernel_rfl) (by kernel_rfl) (by kernel_rfl) (fun _ _ _ h => h) hS0 ?_ ?_
                  rotate_left
                  · (intro w' hSw; (try dsimp only at hSw); go_simp; first | done | with_reducible rfl)
                  try simp only [Act.put, List.setIfInBounds_toArray, List.set_cons_zero, List.set_cons_succ]
                  refine any_take 10 (v := ?_) rfl rfl (by kernel_rfl) (by kernel_rfl) (by kernel_rfl) (fun _ _ _ h => h) hS0 ?_ ?_
                  rotate_left
                  · (intro w' hSw; (try dsimp only at hSw); go_simp; first | done | with_reducible rfl)
                  try simp only [Act.put, List.setIfInBounds_toArray, List.set_cons_zero, List.set_cons_succ]
                  refine any_take 11 (v := .int .u32 (U (x16 + sg0 x15 + x7))) rfl rfl (by kernel_rfl) (by kernel_rfl) (by kernel_rfl) (fun _ _ _ h => h) hS0 (fun w' hw => ?_) ?_
                  · (have hrun := U_add (x16 + sg0 x15) x7; clear hw; go_simp)
                  try simp only [Act.put, List.setIfInBounds_toArray, List.set_cons_zero, List.set_cons_succ]
                  refine any_take 12 (v := ?_) rfl rfl (by kernel_rfl) (by kernel_rfl) (by kernel_rfl) (fun _ _ _ h => h) hS0 ?_ ?_
                  rotate_left
                  · (intro w' hSw; (try dsimp only at hSw); go_simp; first | done | with_reducible rfl)
                  try simp only [Act.put, List.setIfInBounds_toArray, List.set_cons_zero, List.set_cons_succ]
                  refine any_take 13 (v := .int .u32 (U (x16 + sg0 x15 + x7 + sg1 x2))) rfl rfl (by kernel_rfl) (by kernel_rfl) (by kernel_rfl) (fun _ _ _ h => h) hS0 (fun w' hw => ?_) ?_
                  · (have hrun := U_add (x16 + sg0 x15 + x7) (sg1 x2); clear hw; go_simp)
                  try simp only [Act.put, List.setIfInBounds_toArray, List.set_cons_zero, List.set_cons_succ]
                  refine any_take 14 (v := ?_) rfl rfl (by kernel_rfl) (by kernel_rfl) (by kernel_rfl) (fun _ _ _ h => h) hS0 ?_ ?_
                  rotate_left
                  · (intro w' hSw; (try dsimp only at hSw); go_simp; first | done | with_reducible rfl)
                  try simp only [Act.put, List.setIfInBounds_toArray, List.set_cons_zero, List.set_cons_succ]
                  refine any_one 15 (by kernel_rfl) rfl rfl (fun K hK => ?_)
                  go_simp
                  refine hK _ _ (by simpa [go_sem] using hS0) (fun hS1 => ?_)
                  clear hK K
                  refine any_done (by kernel_rfl) (NoPanic.normal ?_)
                  go_wp2_with fail
                  refine ⟨⟨k + 1, by omega, by omega, by simp, ?_, (DIG2.out.drew.drew.set Blk1.out (by decide) n1 n2 n3 hgw k _).drew⟩, by simp [intOf]; omega⟩
                  rw [← tab_set B k (by omega) (x16 + sg0 x15 + x7 + sg1 x2) (by simp only [sched]; rw [if_neg (by omega), H15.out, H2.out, H16.out, H7.out])]
                  exact Blk1.out.store k _
                · obtain rfl : k = 64 := by omega
                  clear hlt2 hk hk'
                  obtain ⟨wo2, rfl⟩ : ∃ wo2 : World, wo2 = wr := ⟨_, rfl⟩
                  have hsl := HSL.out
                  have blk2 := Blk.new wo2 85 (wcells z8)
                  have hgv : w.heap.size ≤ wo2.heap.size := dig.bel.size
                  have m1 : wo2.heap.size ≠ gc := by have := dig.k.lt; omega
                  have m2 : wo2.heap.size ≠ gh := by have := dig.h.lt; omega
                  have m3 : wo2.heap.size ≠ g0 := by have := dig.r.lt; omega
                  have m4 : wo2.heap.size ≠ gw := by have := blk.lt; omega
                  have blkw := Lib.hid (blk.alloc (.cells (wcells z8) 85))
                  have digv := Lib.hid (dig.alloc (.cells (wcells z8) 85))
                  have blkHj := dig.h
                  clear blk dig
                  go_wp2_with (first
                    | (refine wpList_load_row' rfl 85 _ rfl gh 85 (wcells Hj) rfl blkHj 8 26 Try.underlying85 (by rw [wcells_size, hsl, size8]) ?_)
                    | (refine wpList_alloc_row rfl 85 rfl (wcells z8) zero8 ?_)
                    | (refine wpList_store_row rfl 85 _ _ rfl wo2.heap.size 85 (wcells z8) (wcells Hj) rfl rfl blk2 (by rw [wcells_size, wcells_size, hsl, z8_len]) (wcells_one _) (by rw [wcells_size, hsl, size8]) ?_; intro w8 blk8 g8 sz8; replace sz8 := Lib.hid sz8; replace g8 := Lib.hid g8))
                  have dig8 : Dig w w8 gc gh g0 Hj (.slice Am nm cm) T := digv.out.grown blk2 (by decide) g8.out m1 m2 m3 hgv
                  have blkw8 : Blk w8 gw 84 (wcells (tab B 64)) := blkw.out.grown g8.out (fun e => m4 (by injection e))
                  clear blk2 blkw digv blkHj g8 sz8 hsl
                  generalize wo2.heap.size = gv at *
                  go_loopw [15] (fun i wr => ∃ k : Nat, k ≤ 64 ∧ i = .int .i64 k ∧ Blk wr gv 85 (wcells (rnds Hj B k)) ∧ Blk wr gw 84 (wcells (tab B 64)) ∧ Dig w wr gc gh g0 Hj (.slice Am nm cm) T) (fun i _ => 64 - (intOf i).toNat)
                  case atStart => exact ⟨0, by omega, rfl, blk8, blkw8, dig8⟩
                  case round =>
                    clear blk8 blkw8 dig8
                    obtain ⟨k, hk, rfl, blkS, blkW, dig⟩ := hrel
                    by_cases hlt2 : k < 64
                    ·
                      have hk64 : (k : Int) < 64 := by omega
                      have ck := (dig.k.cell k).trans (wcells_at ks k (by rw [ks_len]; exact hlt2))
                      have cw := (blkW.cell k).trans (tab_at B 64 k hlt2)
                      generalize hkk : ks.getD k 0 = kk at ck
                      generalize hww : (sched B 64).getD k 0 = ww at cw
                      have hsl := rnds_len Hj B k HSL.out
                      generalize hs : rnds Hj B k = ss at blkS hsl
                      match ss, hsl with
                      | [s0, s1, s2, s3, s4, s5, s6, s7], _ =>
                        have c0 := blkS.cell 0
                        have c1 := blkS.cell 1
                        have c2 := blkS.cell 2
                        have c3 := blkS.cell 3
                        have c4 := blkS.cell 4
                        have c5 := blkS.cell 5
                        have c6 := blkS.cell 6
                        have c7 := blkS.cell 7
                        simp only [wcells, WV, List.map_cons, List.map_nil, List.getElem?_toArray, List.getElem?_cons_zero, List.getElem?_cons_succ] at c0 c1 c2 c3 c4 c5 c6 c7
                        have HS := Lib.hid hs
                        have HK := Lib.hid hkk
                        have HW := Lib.hid hww
                        have BS := Lib.hid blkS
                        have BW := Lib.hid blkW
                        have DIG2 := Lib.hid dig
                        clear hs hkk hww blkS blkW dig
                        go_wp2_with fail
                        refine any_begin (fun w' => w'.cell? ⟨gv, 4, none⟩ = some (.int .u32 (U s4))) (by kernel_rfl) c4 (fun hS0 => ?_)
                        refine any_take 0 (v := ?_) rfl rfl (by kernel_rfl) (by kernel_rfl) (by kernel_rfl) (fun _ _ _ h => h) hS0 ?_ ?_
                        rotate_left
                        · (intro w' hSw; (try dsimp only at hSw); go_simp; first | done | with_reducible rfl)
                        try simp only [Act.put, List.setIfInBounds_toArray, List.set_cons_zero, List.set_cons_succ]
                        refine any_take 1 (v := ?_) rfl rfl (by kernel_rfl) (by kernel_rfl) (by kernel_rfl) (fun _ _ _ h => h) hS0 ?_ ?_
                        rotate_left
                        · (intro w' hSw; (try dsimp only at hSw); go_simp; first | done | with_reducible rfl)
                        try simp only [Act.put, List.setIfInBounds_toArray, List.set_cons_zero, List.set_cons_succ]
                        refine any_call 2 (v := ?_) (f := ?_) (args := ?_) rfl rfl (by kernel_rfl) (by kernel_rfl) (by kernel_rfl) (fun _ _ _ h => h) hS0 ?_ ?_ ?_
                        rotate_left 3
                        · (intro w' hSw; (try dsimp only at hSw); go_simp; first | done | (constructor <;> with_reducible rfl) | with_reducible rfl)
                        · (intro w' hw; exact turn6 s4 w')
                        try simp only [Act.put, List.setIfInBounds_toArray, List.set_cons_zero, List.set_cons_succ]
                        refine any_take 3 (v := ?_) rfl rfl (by kernel_rfl) (by kernel_rfl) (by kernel_rfl) (fun _ _ _ h => h) hS0 ?_ ?_
                        rotate_left
                        · (intro w' hSw; (try dsimp only at hSw); go_simp; first | done | with_reducible rfl)
                        try simp only [Act.put, List.setIfInBounds_toArray, List.set_cons_zero, List.set_cons_succ]
                        refine any_take 4 (v := ?_) rfl rfl (by kernel_rfl) (by kernel_rfl) (by kernel_rfl) (fun _ _ _ h => h) hS0 ?_ ?_
                        rotate_left
                        · (intro w' hSw; (try dsimp only at hSw); go_simp; first | done | with_reducible rfl)
                        try simp only [Act.put, List.setIfInBounds_toArray, List.set_cons_zero, List.set_cons_succ]
                        refine any_call 5 (v := ?_) (f := ?_) (args := ?_) rfl rfl (by kernel_rfl) (by kernel_rfl) (by kernel_rfl) (fun _ _ _ h => h) hS0 ?_ ?_ ?_
                        rotate_left 3
                        · (intro w' hSw; (try dsimp only at hSw); go_simp; first | done | (constructor <;> with_reducible rfl) | with_reducible rfl)
                        · (intro w' hw; exact turn11 s4 w')
                        try simp only [Act.put, List.setIfInBounds_toArray, List.set_cons_zero, List.set_cons_succ]
                        refine any_take 6 (v := ?_) rfl rfl (by kernel_rfl) (by kernel_rfl) (by kernel_rfl) (fun _ _ _ h => h) hS0 ?_ ?_
                        rotate_left
                        · (intro w' hSw; (try dsimp only at hSw); go_simp; first | done | with_reducible rfl)
                        try simp only [Act.put, List.setIfInBounds_toArray, List.set_cons_zero, List.set_cons_succ]
                        refine any_take 7 (v := ?_) rfl rfl (by kernel_rfl) (by kernel_rfl) (by kernel_rfl) (fun _ _ _ h => h) hS0 ?_ ?_
                        rotate_left
                        · (intro w' hSw; (try dsimp only at hSw); go_simp; first | done | with_reducible rfl)
                        try simp only [Act.put, List.setIfInBounds_toArray, List.set_cons_zero, List.set_cons_succ]
                        refine any_take 8 (v := ?_) rfl rfl (by kernel_rfl) (by kernel_rfl) (by kernel_rfl) (fun _ _ _ h => h) hS0 ?_ ?_
                        rotate_left
                        · (intro w' hSw; (try dsimp only at hSw); go_simp; first | done | with_reducible rfl)
                        try simp only [Act.put, List.setIfInBounds_toArray, List.set_cons_zero, List.set_cons_succ]
                        refine any_call 9 (v := ?_) (f := ?_) (args := ?_) rfl rfl (by kernel_rfl) (by kernel_rfl) (by kernel_rfl) (fun _ _ _ h => h) hS0 ?_ ?_ ?_
                        rotate_left 3
                        · (intro w' hSw; (try dsimp only at hSw); go_simp; first | done | (constructor <;> with_reducible rfl) | with_reducible rfl)
                        · (intro w' hw; exact turn25 s4 w')
                        try simp only [Act.put, List.setIfInBounds_toArray, List.set_cons_zero, List.set_cons_succ]
                        refine any_take 10 (v := .int .u32 (U (SG1 s4))) rfl rfl (by kernel_rfl) (by kernel_rfl) (by kernel_rfl) (fun _ _ _ h => h) hS0 (fun w' hw => ?_) ?_
                        · (have hrun := SG1_val s4; clear hw; go_simp)
                        try simp only [Act.put, List.setIfInBounds_toArray, List.set_cons_zero, List.set_cons_succ]
                        refine any_take 11 (v := ?_) rfl rfl (by kernel_rfl) (by kernel_rfl) (by kernel_rfl) (fun _ _ _ h => h) hS0 ?_ ?_
                        rotate_left
                        · (intro w' hSw; (try dsimp only at hSw); go_simp; first | done | with_reducible rfl)
                        try simp only [Act.put, List.setIfInBounds_toArray, List.set_cons_zero, List.set_cons_succ]
                        refine any_done (by kernel_rfl) (NoPanic.normal ?_)
                        clear hS0
                        have hch := chf_val s4 s5 s6
                        have hnot := not_val s4
                        have hnot2 := U_not s4
                        go_wp2_with fail
                        refine any_begin (fun w' => w'.cell? ⟨gv, 7, none⟩ = some (.int .u32 (U s7)) ∧ w'.cell? ⟨gc, k, none⟩ = some (.int .u32 (U kk)) ∧ w'.cell? ⟨gw, k, none⟩ = some (.int .u32 (U ww))) (by kernel_rfl) ⟨c7, ck, cw⟩ (fun hS0 => ?_)
                        refine any_take 0 (v := ?_) rfl rfl (by kernel_rfl) (by kernel_rfl) (by kernel_rfl) (fun _ _ _ h => h) hS0 ?_ ?_
                        rotate_left
                        · (intro w' hSw; (try dsimp only at hSw); go_simp; first | done | with_reducible rfl)
                        try simp only [Act.put, List.setIfInBounds_toArray, List.set_cons_zero, List.set_cons_succ]
                        refine any_take 1 (v := ?_) rfl rfl (by kernel_rfl) (by kernel_rfl) (by kernel_rfl) (fun _ _ _ h => h) hS0 ?_ ?_
                        rotate_left
                        · (intro w' hSw; (try dsimp only at hSw); go_simp; first | done | with_reducible rfl)
                        try simp only [Act.put, List.setIfInBounds_toArray, List.set_cons_zero, List.set_cons_succ]
                        refine any_take 2 (v := ?_) rfl rfl (by kernel_rfl) (by kernel_rfl) (by kernel_rfl) (fun _ _ _ h => h) hS0 ?_ ?_
                        rotate_left
                        · (intro w' hSw; (try dsimp only at hSw); go_simp; first | done | with_reducible rfl)
                        try simp only [Act.put, List.setIfInBounds_toArray, List.set_cons_zero, List.set_cons_succ]
                        refine any_take 3 (v := .int .u32 (U (s7 + SG1 s4))) rfl rfl (by kernel_rfl) (by kernel_rfl) (by kernel_rfl) (fun _ _ _ h => h) hS0 (fun w' hw => ?_) ?_
                        · (have hrun := U_add s7 (SG1 s4); clear hw; go_simp)
                        try simp only [Act.put, List.setIfInBounds_toArray, List.set_cons_zero, List.set_cons_succ]
                        refine any_take 4 (v := ?_) rfl rfl (by kernel_rfl) (by kernel_rfl) (by kernel_rfl) (fun _ _ _ h => h) hS0 ?_ ?_
                        rotate_left
                        · (intro w' hSw; (try dsimp only at hSw); go_simp; first | done | with_reducible rfl)
                        try simp only [Act.put, List.setIfInBounds_toArray, List.set_cons_zero, List.set_cons_succ]
                        refine any_take 5 (v := .int .u32 (U (s7 + SG1 s4 + chf s4 s5 s6))) rfl rfl (by kernel_rfl) (by kernel_rfl) (by kernel_rfl) (fun _ _ _ h => h) hS0 (fun w' hw => ?_) ?_
                        · (have hrun := U_add (s7 + SG1 s4) (chf s4 s5 s6); clear hw; go_simp)
                        try simp only [Act.put, List.setIfInBounds_toArray, List.set_cons_zero, List.set_cons_succ]
                        refine any_take 6 (v := ?_) rfl rfl (by kernel_rfl) (by kernel_rfl) (by kernel_rfl) (fun _ _ _ h => h) hS0 ?_ ?_
                        rotate_left
                        · (intro w' hSw; (try dsimp only at hSw); go_simp; first | done | with_reducible rfl)
                        try simp only [Act.put, List.setIfInBounds_toArray, List.set_cons_zero, List.set_cons_succ]
                        refine any_take 7 (v := ?_) rfl rfl (by kernel_rfl) (by kernel_rfl) (by kernel_rfl) (fun _ _ _ h => h) hS0 ?_ ?_
                        rotate_left
                        · (intro w' hSw; (try dsimp only at hSw); go_simp; first | done | with_reducible rfl)
                        try simp only [Act.put, List.setIfInBounds_toArray, List.set_cons_zero, List.set_cons_succ]
                        refine any_take 8 (v := ?_) rfl rfl (by kernel_rfl) (by kernel_rfl) (by kernel_rfl) (fun _ _ _ h => h) hS0 ?_ ?_
                        rotate_left
                        · (intro w' hSw; (try dsimp only at hSw); go_simp; first | done | with_reducible rfl)
                        try simp only [Act.put, List.setIfInBounds_toArray, List.set_cons_zero, List.set_cons_succ]
                        refine any_take 9 (v := .int .u32 (U (s7 + SG1 s4 + chf s4 s5 s6 + kk))) rfl rfl (by kernel_rfl) (by kernel_rfl) (by kernel_rfl) (fun _ _ _ h => h) hS0 (fun w' hw => ?_) ?_
                        · (have hrun := U_add (s7 + SG1 s4 + chf s4 s5 s6) kk; clear hw; go_simp)
                        try simp only [Act.put, List.setIfInBounds_toArray, List.set_cons_zero, List.set_cons_succ]
                        refine any_take 10 (v := ?_) rfl rfl (by kernel_rfl) (by kernel_rfl) (by kernel_rfl) (fun _ _ _ h => h) hS0 ?_ ?_
                        rotate_left
                        · (intro w' hSw; (try dsimp only at hSw); go_simp; first | done | with_reducible rfl)
                        try simp only [Act.put, List.setIfInBounds_toArray, List.set_cons_zero, List.set_cons_succ]
                        refine any_take 11 (v := ?_) rfl rfl (by kernel_rfl) (by kernel_rfl) (by kernel_rfl) (fun _ _ _ h => h) hS0 ?_ ?_
                        rotate_left
                        · (intro w' hSw; (try dsimp only at hSw); go_simp; first | done | with_reducible rfl)
                        try simp only [Act.put, List.setIfInBounds_toArray, List.set_cons_zero, List.set_cons_succ]
                        refine any_take 12 (v := ?_) rfl rfl (by kernel_rfl) (by kernel_rfl) (by kernel_rfl) (fun _ _ _ h => h) hS0 ?_ ?_
                        rotate_left
                        · (intro w' hSw; (try dsimp only at hSw); go_simp; first | done | with_reducible rfl)
                        try simp only [Act.put, List.setIfInBounds_toArray, List.set_cons_zero, List.set_cons_succ]
                        refine any_take 13 (v := .int .u32 (U (s7 + SG1 s4 + chf s4 s5 s6 + kk + ww))) rfl rfl (by kernel_rfl) (by kernel_rfl) (by kernel_rfl) (fun _ _ _ h => h) hS0 (fun w' hw => ?_) ?_
                        · (have hrun := U_add (s7 + SG1 s4 + chf s4 s5 s6 + kk) ww; clear hw; go_simp)
                        try simp only [Act.put, List.setIfInBounds_toArray, List.set_cons_zero, List.set_cons_succ]
                        refine any_take 14 (v := ?_) rfl rfl (by kernel_rfl) (by kernel_rfl) (by kernel_rfl) (fun _ _ _ h => h) hS0 ?_ ?_
                        rotate_left
                        · (intro w' hSw; (try dsimp only at hSw); go_simp; first | done | with_reducible rfl)
                        try simp only [Act.put, List.setIfInBounds_toArray, List.set_cons_zero, List.set_cons_succ]
                        refine any_done (by kernel_rfl) (NoPanic.normal ?_)
                        clear hS0
                        generalize hone : s7 + SG1 s4 + chf s4 s5 s6 + kk + ww = one
                        have HONE := Lib.hid hone
                        clear hone hch hnot hnot2
                        go_wp2_with fail
                        refine any_begin (fun w' => w'.cell? ⟨gv, 0, none⟩ = some (.int .u32 (U s0))) (by kernel_rfl) c0 (fun hS0 => ?_)
                        refine any_take 0 (v := ?_) rfl rfl (by kernel_rfl) (by kernel_rfl) (by kernel_rfl) (fun _ _ _ h => h) hS0 ?_ ?_
                        rotate_left
                        · (intro w' hSw; (try dsimp only at hSw); go_simp; first | done | with_reducible rfl)
                        try simp only [Act.put, List.setIfInBounds_toArray, List.set_cons_zero, List.set_cons_succ]
                        refine any_take 1 (v := ?_) rfl rfl (by kernel_rfl) (by kernel_rfl) (by kernel_rfl) (fun _ _ _ h => h) hS0 ?_ ?_
                        rotate_left
                        · (intro w' hSw; (try dsimp only at hSw); go_simp; first | done | with_reducible rfl)
                        try simp only [Act.put, List.setIfInBounds_toArray, List.set_cons_zero, List.set_cons_succ]
                        refine any_call 2 (v := ?_) (f := ?_) (args := ?_) rfl rfl (by kernel_rfl) (by kernel_rfl) (by kernel_rfl) (fun _ _ _ h => h) hS0 ?_ ?_ ?_
                        rotate_left 3
                        · (intro w' hSw; (try dsimp only at hSw); go_simp; first | done | (constructor <;> with_reducible rfl) | with_reducible rfl)
                        · (intro w' hw; exact turn2 s0 w')
                        try simp only [Act.put, List.setIfInBounds_toArray, List.set_cons_zero, List.set_cons_succ]
                        refine any_take 3 (v := ?_) rfl rfl (by kernel_rfl) (by kernel_rfl) (by kernel_rfl) (fun _ _ _ h => h) hS0 ?_ ?_
                        rotate_left
                        · (intro w' hSw; (try dsimp only at hSw); go_simp; first | done | with_reducible rfl)
                        try simp only [Act.put, List.setIfInBounds_toArray, List.set_cons_zero, List.set_cons_succ]
                        refine any_take 4 (v := ?_) rfl rfl (by kernel_rfl) (by kernel_rfl) (by kernel_rfl) (fun _ _ _ h => h) hS0 ?_ ?_
                        rotate_left
                        · (intro w' hSw; (try dsimp only at hSw); go_simp; first | done | with_reducible rfl)
                        try simp only [Act.put, List.setIfInBounds_toArray, List.set_cons_zero, List.set_cons_succ]
                        refine any_call 5 (v := ?_) (f := ?_) (args := ?_) rfl rfl (by kernel_rfl) (by kernel_rfl) (by kernel_rfl) (fun _ _ _ h => h) hS0 ?_ ?_ ?_
                        rotate_left 3
                        · (intro w' hSw; (try dsimp only at hSw); go_simp; first | done | (constructor <;> with_reducible rfl) | with_reducible rfl)
                        · (intro w' hw; exact turn13 s0 w')
                        try simp only [Act.put, List.setIfInBounds_toArray, List.set_cons_zero, List.set_cons_succ]
                        refine any_take 6 (v := ?_) rfl rfl (by kernel_rfl) (by kernel_rfl) (by kernel_rfl) (fun _ _ _ h => h) hS0 ?_ ?_
                        rotate_left
                        · (intro w' hSw; (try dsimp only at hSw); go_simp; first | done | with_reducible rfl)
                        try simp only [Act.put, List.setIfInBounds_toArray, List.set_cons_zero, List.set_cons_succ]
                        refine any_take 7 (v := ?_) rfl rfl (by kernel_rfl) (by kernel_rfl) (by kernel_rfl) (fun _ _ _ h => h) hS0 ?_ ?_
                        rotate_left
                        · (intro w' hSw; (try dsimp only at hSw); go_simp; first | done | with_reducible rfl)
                        try simp only [Act.put, List.setIfInBounds_toArray, List.set_cons_zero, List.set_cons_succ]
                        refine any_take 8 (v := ?_) rfl rfl (by kernel_rfl) (by kernel_rfl) (by kernel_rfl) (fun _ _ _ h => h) hS0 ?_ ?_
                        rotate_left
                        · (intro w' hSw; (try dsimp only at hSw); go_simp; first | done | with_reducible rfl)
                        try simp only [Act.put, List.setIfInBounds_toArray, List.set_cons_zero, List.set_cons_succ]
                        refine any_call 9 (v := ?_) (f := ?_) (args := ?_) rfl rfl (by kernel_rfl) (by kernel_rfl) (by kernel_rfl) (fun _ _ _ h => h) hS0 ?_ ?_ ?_
                        rotate_left 3
                        · (intro w' hSw; (try dsimp only at hSw); go_simp; first | done | (constructor <;> with_reducible rfl) | with_reducible rfl)
                        · (intro w' hw; exact turn22 s0 w')
                        try simp only [Act.put, List.setIfInBounds_toArray, List.set_cons_zero, List.set_cons_succ]
                        refine any_take 10 (v := .int .u32 (U (SG0 s0))) rfl rfl (by kernel_rfl) (by kernel_rfl) (by kernel_rfl) (fun _ _ _ h => h) hS0 (fun w' hw => ?_) ?_
                        · (have hrun := SG0_val s0; clear hw; go_simp)
                        try simp only [Act.put, List.setIfInBounds_toArray, List.set_cons_zero, List.set_cons_succ]
                        refine any_take 11 (v := ?_) rfl rfl (by kernel_rfl) (by kernel_rfl) (by kernel_rfl) (fun _ _ _ h => h) hS0 ?_ ?_
                        rotate_left
                        · (intro w' hSw; (try dsimp only at hSw); go_simp; first | done | with_reducible rfl)
                        try simp only [Act.put, List.setIfInBounds_toArray, List.set_cons_zero, List.set_cons_succ]
                        refine any_done (by kernel_rfl) (NoPanic.normal ?_)
                        clear hS0
                        have hmj := maj_val s0 s1 s2
                        have a1 := U_addm (SG0 s0) (maj s0 s1 s2)
                        generalize htwo : SG0 s0 + maj s0 s1 s2 = two at a1
                        have a2 := U_addm one two
                        have a3 := U_addm s3 one
                        have HTWO := Lib.hid htwo
                        clear htwo
                        go_wp2_with (first
                          | (refine wpList_build_row rfl 85 _ rfl (.agg (wcells [one + two, s0, s1, s2, s3 + one, s4, s5, s6])) (by kernel_rfl) ?_)
                          | (refine wpList_store_row rfl 85 _ _ rfl gv 85 (wcells [s0, s1, s2, s3, s4, s5, s6, s7]) (wcells [one + two, s0, s1, s2, s3 + one, s4, s5, s6]) rfl rfl BS.out rfl (wcells_one _) (by rw [wcells_size, size8]; rfl) ?_; intro w9 blk9 g9 sz9; replace blk9 := Lib.hid blk9; replace g9 := Lib.hid g9; replace sz9 := Lib.hid sz9))
                        refine ⟨⟨k + 1, by omega, by simp, ?_, ?_, ?_⟩, by simp [intOf]; omega⟩
                        · have e : wcells (rnds Hj B (k + 1)) = wcells [one + two, s0, s1, s2, s3 + one, s4, s5, s6] := by
                            show wcells (rnd (rnds Hj B k) (ks.getD k 0) ((sched B 64).getD k 0)) = _
                            rw [HS.out, HK.out, HW.out, ← HONE.out, ← HTWO.out]
                            rfl
                          rw [e]
                          exact blk9.out
                        · exact Blk.grown (w := wr.drew.drew.drew) BW.out g9.out (fun e => m4 (by injection e))
                        · exact DIG2.out.drew.drew.drew.grown (show Blk wr.drew.drew.drew gv _ _ from BS.out) (by decide) g9.out m1 m2 m3 hgv
                    · obtain rfl : k = 64 := by omega
                      clear hlt2 hk blkW
                      generalize hss : rnds Hj B 64 = ss at blkS
                      have sl : ss.length = 8 := by rw [← hss]; exact rnds_len Hj B 64 HSL.out
                      have HSS := Lib.hid hss
                      have SL := Lib.hid sl
                      clear hss sl
                      go_wp2_with fail
                      go_loopw [21] (fun i wr => ∃ k : Nat, k ≤ 8 ∧ i = .int .i64 k ∧ Blk wr gv 85 (wcells ss) ∧ Dig w wr gc gh g0 (summed Hj ss k) (.slice Am nm cm) T) (fun i _ => 8 - (intOf i).toNat)
                      case atStart => exact ⟨0, by omega, rfl, blkS, by rw [summed_zero]; exact dig⟩
                      case round =>
                        clear blkS dig
                        obtain ⟨k, hk, rfl, blkS, dig⟩ := hrel
                        by_cases hlt2 : k < 8
                        · have hk8 : (k : Int) < 8 := by omega
                          have cs := (blkS.cell k).trans (wcells_at ss k (by rw [SL.out]; exact hlt2))
                          have ch : wr.cell? ⟨gh, k, none⟩ = some (.int .u32 (U (Hj.getD k 0))) := by
                            have h1 := summed_at Hj ss HSL.out SL.out k hlt2
                            rw [dig.h.cell, wcells, List.getElem?_toArray, List.getElem?_map, h1]
                            rfl
                          have fh := dig.h.frozen k
                          generalize hx : ss.getD k 0 = x at cs
                          generalize hy : Hj.getD k 0 = y at ch
                          have HX := Lib.hid hx
                          have HY := Lib.hid hy
                          have BS := Lib.hid blkS
                          have DIG2 := Lib.hid dig
                          clear hx hy blkS dig
                          go_wp2_with fail
                          refine any_begin (fun w' => w'.cell? ⟨gv, k, none⟩ = some (.int .u32 (U x))) (by kernel_rfl) cs (fun hS0 => ?_)
                          refine any_take 0 (v := ?_) rfl rfl (by kernel_rfl) (by kernel_rfl) (by kernel_rfl) (fun _ _ _ h => h) hS0 ?_ ?_
                          rotate_left
                          · (intro w' hSw; (try dsimp only at hSw); go_simp; first | done | with_reducible rfl)
                          try simp only [Act.put, List.setIfInBounds_toArray, List.set_cons_zero, List.set_cons_succ]
                          refine any_take 1 (v := ?_) rfl rfl (by kernel_rfl) (by kernel_rfl) (by kernel_rfl) (fun _ _ _ h => h) hS0 ?_ ?_
                          rotate_left
                          · (intro w' hSw; (try dsimp only at hSw); go_simp; first | done | with_reducible rfl)
                          try simp only [Act.put, List.setIfInBounds_toArray, List.set_cons_zero, List.set_cons_succ]
                          refine any_take 3 (v := ?_) rfl rfl (by kernel_rfl) (by kernel_rfl) (by kernel_rfl) (fun _ _ _ h => h) hS0 ?_ ?_
                          rotate_left
                          · (intro w' hSw; (try dsimp only at hSw); go_simp; first | done | with_reducible rfl)
                          try simp only [Act.put, List.setIfInBounds_toArray, List.set_cons_zero, List.set_cons_succ]
                          refine any_take 4 (v := ?_) rfl rfl (by kernel_rfl) (by kernel_rfl) (by kernel_rfl) (fun _ _ _ h => h) hS0 ?_ ?_
                          rotate_left
                          · (intro w' hSw; (try dsimp only at hSw); go_simp; first | done | with_reducible rfl)
                          try simp only [Act.put, List.setIfInBounds_toArray, List.set_cons_zero, List.set_cons_succ]
                          refine any_take 5 (v := ?_) rfl rfl (by kernel_rfl) (by kernel_rfl) (by kernel_rfl) (fun _ _ _ h => h) hS0 ?_ ?_
                          rotate_left
                          · (intro w' hSw; (try dsimp only at hSw); go_simp; first | done | with_reducible rfl)
                          try simp only [Act.put, List.setIfInBounds_toArray, List.set_cons_zero, List.set_cons_succ]
                          refine any_one 2 (by kernel_rfl) rfl rfl (fun K hK => ?_)
                          go_simp
                          refine hK _ _ hS0 (fun hS1 => ?_)
                          clear hK K
                          try simp only [Act.put, List.setIfInBounds_toArray, List.set_cons_zero, List.set_cons_succ]
                          refine any_take 6 (v := .int .u32 (U (y + x))) rfl rfl (by kernel_rfl) (by kernel_rfl) (by kernel_rfl) (fun _ _ _ h => h) hS1 (fun w' hw => ?_) ?_
                          · (have hrun := U_add y x; clear hw; go_simp)
                          try simp only [Act.put, List.setIfInBounds_toArray, List.set_cons_zero, List.set_cons_succ]
                          refine any_take 7 (v := ?_) rfl rfl (by kernel_rfl) (by kernel_rfl) (by kernel_rfl) (fun _ _ _ h => h) hS1 ?_ ?_
                          rotate_left
                          · (intro w' hSw; (try dsimp only at hSw); go_simp; first | done | with_reducible rfl)
                          try simp only [Act.put, List.setIfInBounds_toArray, List.set_cons_zero, List.set_cons_succ]
                          refine any_one 8 (by kernel_rfl) rfl rfl (fun K hK => ?_)
                          go_simp
                          refine hK _ _ (by rw [← hS0]; exact World.cell?_of_block (a := ⟨gv, k, none⟩) (Below.heap_setCell _ ⟨gh, k, none⟩ _ gv m2)) (fun hS2 => ?_)
                          clear hK K
                          refine any_done (by kernel_rfl) (NoPanic.normal ?_)
                          go_wp2_with fail
                          refine ⟨⟨k + 1, by omega, by simp, BS.out.other m2 _, ?_⟩, by simp [intOf]; omega⟩
                          refine (DIG2.out.word (by omega) (by omega) (by omega) k (y + x) ?_).drew
                          rw [← summed_set Hj ss HSL.out SL.out k hlt2, HX.out, HY.out]
                        · obtain rfl : k = 8 := by omega
                          have hnext : blocks h0s T (j + 1) = summed Hj ss 8 := by
                            rw [summed_all _ _ HSL.out SL.out, ← HSS.out, ← HHJ.out, HB.out, hpj.out]
                            rfl
                          rw [← hnext] at dig
                          have HNX := Lib.hid hnext
                          have DIG2 := Lib.hid dig
                          clear hnext dig blkS hlt2 hk
                          go_wp2_with fail
                          refine ⟨⟨j + 1, p + 64, Lib.hid (by have := hpj.out; omega), by simp, by omega, DIG2.out⟩, by simp [intOf]; omega⟩
        · obtain rfl : nm = p := by omega
          have hjT : j = T.length / 64 := by have := hpj.out; omega
          rw [← hjT] at SHA
          generalize hHj : blocks h0s T j = Hj at dig HSl SHA
          have HSL := Lib.hid HSl
          have DIG := Lib.hid dig
          have blk1 := Blk.new wr 64 (bcells z32)
          have dig1 := dig.alloc (.cells (bcells z32) 64)
          have hgo : w.heap.size ≤ wr.heap.size := dig.bel.size
          have n1 : wr.heap.size ≠ gc := by have := dig.k.lt; omega
          have n2 : wr.heap.size ≠ gh := by have := dig.h.lt; omega
          have n3 : wr.heap.size ≠ g0 := by have := dig.r.lt; omega
          clear dig hlt hpn hTl hTb hmT HSl hHj hjT hpj
          go_wp2_with (refine wpList_alloc_row rfl 64 rfl (bcells z32) zero32 ?_)
          generalize wr.alloc (.cells (bcells z32) 64) = w7 at *
          generalize wr.heap.size = go at *
          go_loopw [23] (fun i wr => ∃ k : Nat, k ≤ 8 ∧ i = .int .i64 k ∧ Blk wr go 64 (bcells (outK Hj k)) ∧ Dig w wr gc gh g0 Hj (.slice Am nm cm) T) (fun i _ => 8 - (intOf i).toNat)
          case atStart => exact ⟨0, by omega, rfl, by rw [outK_zero]; exact blk1, dig1⟩
          case round =>
            clear blk1 dig1
            obtain ⟨k, hk, rfl, blk, dig⟩ := hrel
            by_cases hlt : k < 8
            · have hk8 : (k : Int) < 8 := by omega
              have e4 : IntKind.i64.wrap (4 * (k : Int)) = 4 * (k : Int) := by rw [IntKind.wrap_i64]; omega
              have hsl := fun W : World => run_back32 W go k hlt _ rfl
              have ch := (dig.h.cell k).trans (wcells_at Hj k (by rw [HSL.out]; exact hlt))
              have hcp := outK_copy Hj HSL.out k hlt
              generalize Hj.getD k 0 = x at ch hcp
              have hol := outK_len Hj HSL.out k hk
              have HCP := Lib.hid hcp
              have HOL := Lib.hid hol
              have BLK := Lib.hid blk
              have DIG2 := Lib.hid dig
              clear hcp hol blk dig
              go_wp2_with fail
              refine any_begin (fun w' => w'.cell? ⟨gh, k, none⟩ = some (.int .u32 (U x))) (by kernel_rfl) ch (fun hS0 => ?_)
              refine any_take 0 (v := ?_) rfl rfl (by kernel_rfl) (by kernel_rfl) (by kernel_rfl) (fun _ _ _ h => h) hS0 ?_ ?_
              rotate_left
              · (intro w' hSw; (try dsimp only at hSw); go_simp; first | done | with_reducible rfl)
              try simp only [Act.put, List.setIfInBounds_toArray, List.set_cons_zero, List.set_cons_succ]
              refine any_take 1 (v := ?_) rfl rfl (by kernel_rfl) (by kernel_rfl) (by kernel_rfl) (fun _ _ _ h => h) hS0 ?_ ?_
              rotate_left
              · (intro w' hSw; (try dsimp only at hSw); go_simp; first | done | with_reducible rfl)
              try simp only [Act.put, List.setIfInBounds_toArray, List.set_cons_zero, List.set_cons_succ]
              refine any_take 2 (v := ?_) rfl rfl (by kernel_rfl) (by kernel_rfl) (by kernel_rfl) (fun _ _ _ h => h) hS0 ?_ ?_
              rotate_left
              · (intro w' hSw; (try dsimp only at hSw); go_simp; first | done | with_reducible rfl)
              try simp only [Act.put, List.setIfInBounds_toArray, List.set_cons_zero, List.set_cons_succ]
              refine any_take 3 (v := ?_) rfl rfl (by kernel_rfl) (by kernel_rfl) (by kernel_rfl) (fun _ _ _ h => h) hS0 ?_ ?_
              rotate_left
              · (intro w' hSw; (try dsimp only at hSw); go_simp; first | done | with_reducible rfl)
              try simp only [Act.put, List.setIfInBounds_toArray, List.set_cons_zero, List.set_cons_succ]
              refine any_take 4 (v := ?_) rfl rfl (by kernel_rfl) (by kernel_rfl) (by kernel_rfl) (fun _ _ _ h => h) hS0 ?_ ?_
              rotate_left
              · (intro w' hSw; (try dsimp only at hSw); go_simp; first | done | with_reducible rfl)
              try simp only [Act.put, List.setIfInBounds_toArray, List.set_cons_zero, List.set_cons_succ]
              refine any_take 5 (v := ?_) rfl rfl (by kernel_rfl) (by kernel_rfl) (by kernel_rfl) (fun _ _ _ h => h) hS0 ?_ ?_
              rotate_left
              · (intro w' hSw; (try dsimp only at hSw); go_simp; first | done | with_reducible rfl)
              try simp only [Act.put, List.setIfInBounds_toArray, List.set_cons_zero, List.set_cons_succ]
              refine any_take 6 (v := .int .u64 ((x.toNat : Nat) : Int)) rfl rfl (by kernel_rfl) (by kernel_rfl) (by kernel_rfl) (fun _ _ _ h => h) hS0 (fun w' hw => ?_) ?_
              · (have hrun := widen x; clear hw; go_simp)
              try simp only [Act.put, List.setIfInBounds_toArray, List.set_cons_zero, List.set_cons_succ]
              refine any_one 7 (by kernel_rfl) rfl rfl (fun K1 hK1 => ?_)
              go_simp
              refine (refPut4 x.toNat _ wr.heap.size (by have := x.isLt; omega) (by simp)).mono ?_
              rintro e w8 ⟨v8, rfl, own8, b8⟩
              obtain ⟨A8, c8, rfl, _, _, rd8, _⟩ := own8.slice
              rw [put_len]
              obtain ⟨b8', o8, rfl, _, hc8⟩ := rd8 (by rw [List.length_map, put_len]; omega)
              have dig8 := DIG2.out.drew.below b8
              have blk8 := Blk.below (w := wr.drew) BLK.out b8 BLK.out.lt
              have ch8 : w8.cell? ⟨gh, k, none⟩ = some (.int .u32 (U x)) := by rw [← hS0]; exact b8.cell (p := ⟨gh, k, none⟩) DIG2.out.h.lt
              refine hK1 _ _ ch8 (fun hS1 => ?_)
              clear hK1 K1
              try simp only [Act.put, List.setIfInBounds_toArray, List.set_cons_zero, List.set_cons_succ]
              refine any_one 8 (by kernel_rfl) rfl rfl (fun K2 hK2 => ?_)
              refine wp_copy_row _ _ 24 24 rfl 5 Try.underlying24 size_u8 go (4 * k) (32 - 4 * k) (32 - 4 * k) ⟨b8', o8, none⟩ 4 c8 rfl rfl (bcells (outK Hj k)) 64 blk8 ((put x.toNat 4).map B) (by rw [List.length_map, put_len]; exact (Nat.min_eq_left (by omega)).symm) (fun i v hv => ?_) (by rw [List.length_map, put_len, bcells_size, HOL.out]; omega) (one_B _) (bcells (outK Hj (k + 1))) (by rw [bcells_copy, put_len, HCP.out]) (fun w9 blk9 g9 sz9 => ?_)
              · rw [add_flat, hc8 i (by rw [List.length_map]; have := (List.getElem?_eq_some_iff.1 hv).1; simpa using this), hv]
              have dig9 := dig8.grown blk8 (by decide) g9 n1 n2 n3 hgo
              refine hK2 _ _ (by rw [← ch8]; exact World.cell?_of_block (a := ⟨gh, k, none⟩) (g9.block gh dig8.h.lt (fun e => n2 (by injection e with e; exact e.symm)))) (fun hS2 => ?_)
              clear hK2 K2
              try simp only [Act.put, List.setIfInBounds_toArray, List.set_cons_zero, List.set_cons_succ]
              refine any_done (by kernel_rfl) (NoPanic.normal ?_)
              go_wp2_with fail
              exact ⟨⟨k + 1, by omega, by simp, blk9, dig9⟩, by simp [intOf]; omega⟩
            · obtain rfl : k = 8 := by omega
              rw [outK_all Hj HSL.out, ← SHA.out] at blk
              have hml := sha_len b
              have HML := Lib.hid hml
              have blkr := dig.r
              have BEL := Lib.hid dig.bel
              have ge0 : w.heap.size ≤ g0 := by omega
              clear hlt hk dig hml
              go_wp2_with (first
                | (refine wpList_load_row' rfl 64 _ rfl go 64 (bcells (sha b)) rfl blk 32 5 Try.underlying64 (by rw [bcells_size, HML.out, size32]) ?_)
                | (refine wpList_store_row rfl 64 _ _ rfl g0 64 (bcells z32) (bcells (sha b)) rfl rfl blkr (by rw [bcells_size, bcells_size, HML.out, z32_len]) (bcells_one _) (by rw [bcells_size, HML.out, size32]) ?_; intro w9 blk9 g9 sz9))
              have hl := load_row w9 64 g0 64 (bcells (sha b)) blk9 32 5 Try.underlying64 (by rw [bcells_size, HML.out, size32])
              refine bodyPost_ret (v := .agg (bcells (sha b))) (by simp [results, Try.results62, Act.put, asAddr, hl]) rfl ⟨rfl, BEL.out.grown g9 BEL.out.size (fun k hk => by injection hk with e; omega)⟩

end Go.Proofs.Ytehhgfkbcjbciaa
