/- sha.mix: plain laws of its table and its words. -/
import Derived.Test.YtehhgfkbcjbciaaShaConst
import Derived.Test.YtehhgfkbcjbciaaPlan
import Derived.Deep.MidRow
import Derived.Laws.CopyRow
namespace Go.Proofs.Ytehhgfkbcjbciaa
open Go.RowKit

/-- a table of 64 words of which the first k are reckoned -/
def tab (b : List UInt8) (k : Nat) : List W32 := sched b k ++ List.replicate (64 - k) 0#32

theorem tab_len (b : List UInt8) (k : Nat) (h : k ≤ 64) : (tab b k).length = 64 := by simp [tab, sched_len]; omega

theorem tab_zero (b : List UInt8) : tab b 0 = z64 := rfl

theorem tab_set (b : List UInt8) (k : Nat) (h : k < 64) (x : W32) (hx : sched b (k + 1) = sched b k ++ [x]) : (wcells (tab b k)).setIfInBounds k (.int .u32 (U x)) = wcells (tab b (k + 1)) := by
  unfold tab wcells
  rw [hx]
  obtain ⟨m, hm⟩ : ∃ m, 64 - k = m + 1 := ⟨63 - k, by omega⟩
  rw [hm, show 64 - (k + 1) = m from by omega, List.replicate_succ]
  apply Array.ext'
  rw [Array.toList_setIfInBounds]
  simp only [List.map_append, List.map_cons, List.append_assoc, List.singleton_append]
  rw [List.set_append_right _ _ (by simp [sched_len])]
  simp [sched_len, WV]

theorem tab_at (b : List UInt8) (k j : Nat) (h : j < k) : (wcells (tab b k))[j]? = some (.int .u32 (U ((sched b k).getD j 0))) := by
  unfold tab wcells
  have hj : j < (sched b k).length := by rw [sched_len]; exact h
  simp [List.getElem?_append_left (show j < ((sched b k).map WV).length by simpa using hj), List.getElem?_eq_getElem hj, WV]

theorem or_add (a i c : Nat) (h : c < 2 ^ i) : (a * 2 ^ i) ||| c = a * 2 ^ i + c := by
  rw [← Nat.shiftLeft_eq, ← Nat.shiftLeft_add_eq_or_of_lt h]

theorem word_or (b : List UInt8) (k : Nat) (x0 x1 x2 x3 : UInt8) (hx : (b.drop (4 * k)).take 4 = [x0, x1, x2, x3]) :
    bits .or .u32 (bits .or .u32 (bits .or .u32 ((x0.toNat : Int) % 4294967296 * 16777216 % 4294967296) ((x1.toNat : Int) % 4294967296 * 65536 % 4294967296)) ((x2.toNat : Int) % 4294967296 * 256 % 4294967296)) ((x3.toNat : Int) % 4294967296) = U (word b k) := by
  have s0 := U_shl (w8 x0) 24
  have s1 := U_shl (w8 x1) 16
  have s2 := U_shl (w8 x2) 8
  rw [show (((2 : Nat) ^ 24 : Nat) : Int) = 16777216 from by decide] at s0
  rw [show (((2 : Nat) ^ 16 : Nat) : Int) = 65536 from by decide] at s1
  rw [show (((2 : Nat) ^ 8 : Nat) : Int) = 256 from by decide] at s2
  simp only [U_byte_mod, s0, s1, s2, U_or]
  congr 1
  unfold word
  rw [hx]
  have b0 := x0.toNat_lt
  have b1 := x1.toNat_lt
  have b2 := x2.toNat_lt
  have b3 := x3.toNat_lt
  have t0 : (w8 x0 <<< 24).toNat = x0.toNat * 2 ^ 24 := by simp [w8, BitVec.toNat_shiftLeft, Nat.shiftLeft_eq]; omega
  have t1 : (w8 x1 <<< 16).toNat = x1.toNat * 2 ^ 16 := by simp [w8, BitVec.toNat_shiftLeft, Nat.shiftLeft_eq]; omega
  have t2 : (w8 x2 <<< 8).toNat = x2.toNat * 2 ^ 8 := by simp [w8, BitVec.toNat_shiftLeft, Nat.shiftLeft_eq]; omega
  have t3 : (w8 x3).toNat = x3.toNat := by simp [w8]
  apply BitVec.eq_of_toNat_eq
  rw [BitVec.toNat_or, BitVec.toNat_or, BitVec.toNat_or, t0, t1, t2, t3, or_add x0.toNat 24 _ (by omega)]
  rw [show x0.toNat * 2 ^ 24 + x1.toNat * 2 ^ 16 = (x0.toNat * 2 ^ 8 + x1.toNat) * 2 ^ 16 from by omega, or_add _ 16 _ (by omega)]
  rw [show (x0.toNat * 2 ^ 8 + x1.toNat) * 2 ^ 16 + x2.toNat * 2 ^ 8 = ((x0.toNat * 2 ^ 8 + x1.toNat) * 2 ^ 8 + x2.toNat) * 2 ^ 8 from by omega, or_add _ 8 _ (by omega)]
  rw [BitVec.toNat_ofNat]
  simp only [get, List.foldl_cons, List.foldl_nil]
  omega

theorem sched_sum (x16 x15 x7 x2 : W32) :
    (U x16 + bits .xor .u32 (bits .xor .u32 (U (rotr x15 7)) (U (rotr x15 18))) (U x15 / 8) + U x7 + bits .xor .u32 (bits .xor .u32 (U (rotr x2 17)) (U (rotr x2 19))) (U x2 / 1024)) % 4294967296 = U (x16 + sg0 x15 + x7 + sg1 x2) := by
  have s3 := U_shr x15 3
  have s10 := U_shr x2 10
  rw [show (((2 : Nat) ^ 3 : Nat) : Int) = 8 from by decide] at s3
  rw [show (((2 : Nat) ^ 10 : Nat) : Int) = 1024 from by decide] at s10
  simp only [s3, s10, U_xor]
  unfold sg0 sg1 U
  simp only [BitVec.toNat_add]
  omega

theorem Blk.range {w : World} {g : Nat} {t : TypeId} {P M S : List Value} {o : Nat} (h : Blk w g t (P ++ M ++ S).toArray) (ho : P.length = o) : w.rangeAt g o M := fun j v hv => by
  subst ho
  have hj : j < M.length := (List.getElem?_eq_some_iff.1 hv).1
  rw [h.cell, List.getElem?_toArray, List.append_assoc, List.getElem?_append_right (by omega), show P.length + j - P.length = j from by omega, List.getElem?_append_left hj, hv]

theorem wcells_at (l : List W32) (j : Nat) (h : j < l.length) : (wcells l)[j]? = some (.int .u32 (U (l.getD j 0))) := by
  simp [wcells, List.getElem?_eq_getElem h, WV]

theorem rnds_len (h : List W32) (b : List UInt8) (k : Nat) (hl : h.length = 8) : (rnds h b k).length = 8 := by
  cases k with
  | zero => exact hl
  | succ n => rfl

theorem wp_copy_row {o : Oper} {a : Act} {K : Act → World → Prop} {Q : Exit → Act → World → Prop} {w : World} (d s : Operand) (dT sT : TypeId)
    (ho : o.op = .call { callee := .builtin .copy, args := #[d, s], argTypes := #[dT, sT] }) (elem : TypeId) (hu : Try.prog.underlying dT = some (.slice elem)) (hsz : (Try.prog.info? elem).map (·.size) = some 1)
    (g off dLen dCap : Nat) (ad : Addr) (sLen sCap : Nat) (hd : a.eval d = .slice (some ⟨g, off, none⟩) dLen dCap) (hs : a.eval s = .slice (some ad) sLen sCap)
    (cur : Array Value) (t : TypeId) (hg : Blk w g t cur) (cs : List Value) (hn : cs.length = Nat.min sLen dLen)
    (hsrc : ∀ j v, cs[j]? = some v → w.cell? (ad.add j) = some v) (hfit : off + cs.length ≤ cur.size) (h1 : ∀ v ∈ cs, v.oneCell' = true)
    (new : Array Value) (hnew : new = (cur.toList.take off ++ cs ++ cur.toList.drop (off + cs.length)).toArray)
    (h : ∀ w', Blk w' g t new → w.grownBy w' (some g) → w'.heap.size = w.heap.size → K (a.put o.dst (goInt cs.length)) w') : o.wp Try.prog a w K Q := by
  have hrun := run_copy_row (P := Try.prog) w dT sT o.type elem g off dLen dCap ad sLen sCap cur t cs hu hsz hg hn hsrc hfit h1
  rw [← hnew] at hrun
  unfold Oper.wp
  simp [execOp, ho, resolve, invoke, builtin, hd, hs, hrun, Result.andThen]
  exact h _ (setRow_heap w g cur new t (0, 0) hg) ⟨rfl, rfl, rfl, by simp, fun k _ hk => setRow_other w g k new (fun e => hk (by rw [e]))⟩ (by simp)

theorem U_addm (x y : W32) : (U x + U y) % 4294967296 = U (x + y) := by
  unfold U
  simp only [BitVec.toNat_add]
  omega

theorem SG1_val (x : W32) : bits .xor .u32 (bits .xor .u32 (U (rotr x 6)) (U (rotr x 11))) (U (rotr x 25)) = U (SG1 x) := by rw [U_xor, U_xor]; rfl

theorem SG0_val (x : W32) : bits .xor .u32 (bits .xor .u32 (U (rotr x 2)) (U (rotr x 13))) (U (rotr x 22)) = U (SG0 x) := by rw [U_xor, U_xor]; rfl

theorem not_val (x : W32) : bits .xor .u32 (if IntKind.u32.signed = true then -1 else IntKind.u32.max) (U x) = U (~~~x) := by rw [if_neg (by decide), U_not]

theorem chf_val (e f g : W32) : bits .xor .u32 (bits .and .u32 (U e) (U f)) (bits .and .u32 (U (~~~e)) (U g)) = U (chf e f g) := by rw [U_and, U_and, U_xor]; rfl

theorem maj_val (a b c : W32) : bits .xor .u32 (bits .xor .u32 (bits .and .u32 (U a) (U b)) (bits .and .u32 (U a) (U c))) (bits .and .u32 (U b) (U c)) = U (maj a b c) := by rw [U_and, U_and, U_and, U_xor, U_xor]; rfl

theorem tab_next (b : List UInt8) (k : Nat) (h : k < 64) : (wcells (tab b k))[k]? = some (.int .u32 (U 0#32)) := by
  unfold tab wcells
  obtain ⟨m, hm⟩ : ∃ m, 64 - k = m + 1 := ⟨63 - k, by omega⟩
  rw [hm, List.replicate_succ]
  simp [sched_len, WV]

/-- the first k words summed up -/
def summed (h s : List W32) (k : Nat) : List W32 := (List.zipWith (· + ·) h s).take k ++ h.drop k

theorem summed_zero (h s : List W32) : summed h s 0 = h := by simp [summed]

theorem summed_all (h s : List W32) (hl : h.length = 8) (sl : s.length = 8) : summed h s 8 = List.zipWith (· + ·) h s := by
  unfold summed
  rw [List.take_of_length_le (by simp [hl, sl]), List.drop_of_length_le (by omega), List.append_nil]

theorem summed_len (h s : List W32) (hl : h.length = 8) (sl : s.length = 8) (k : Nat) (hk : k ≤ 8) : (summed h s k).length = 8 := by
  unfold summed
  simp [hl, sl]
  omega

theorem summed_at (h s : List W32) (hl : h.length = 8) (sl : s.length = 8) (k : Nat) (hk : k < 8) : (summed h s k)[k]? = some (h.getD k 0) := by
  unfold summed
  rw [List.getElem?_append_right (by simp [hl, sl]; omega)]
  simp only [List.length_take, List.length_zipWith, hl, sl]
  rw [show k - min k (min 8 8) = 0 from by omega, List.getElem?_drop, Nat.add_zero, List.getElem?_eq_getElem (by omega), List.getD_eq_getElem?_getD, List.getElem?_eq_getElem (by omega)]
  rfl

theorem summed_set (h s : List W32) (hl : h.length = 8) (sl : s.length = 8) (k : Nat) (hk : k < 8) : (summed h s k).set k (h.getD k 0 + s.getD k 0) = summed h s (k + 1) := by
  have e1 : (List.zipWith (· + ·) h s).take (k + 1) = (List.zipWith (· + ·) h s).take k ++ [h.getD k 0 + s.getD k 0] := by
    rw [List.take_succ_eq_append_getElem (by simp [hl, sl]; omega)]
    congr 2
    rw [List.getElem_zipWith, List.getD_eq_getElem?_getD, List.getElem?_eq_getElem (by omega), List.getD_eq_getElem?_getD, List.getElem?_eq_getElem (by omega)]
    rfl
  unfold summed
  rw [e1, List.set_append_right _ _ (by simp [hl, sl]; omega)]
  simp only [List.length_take, List.length_zipWith, hl, sl]
  rw [show k - min k (min 8 8) = 0 from by omega, List.drop_eq_getElem_cons (by omega : k < h.length), List.set_cons_zero, List.append_assoc]
  rfl

/-- words in the midst of a block: one of them stored -/
theorem Blk.word {w : World} {g : Nat} {t : TypeId} {P S : List Value} {l l' : List W32} {x : W32} {k o j : Nat} (h : Blk w g t (P ++ l.map WV ++ S).toArray) (ho : P.length = o) (hj : j = o + k) (hk : k < l.length) (hs : l.set k x = l') :
    Blk (w.setCell ⟨g, j, none⟩ (.int .u32 (U x))) g t (P ++ l'.map WV ++ S).toArray := by
  have e : (P ++ l.map WV ++ S).toArray.setIfInBounds j (.int .u32 (U x)) = (P ++ l'.map WV ++ S).toArray := by
    subst ho hj hs
    rw [List.setIfInBounds_toArray, List.append_assoc, List.set_append_right _ _ (by omega), Nat.add_sub_cancel_left, List.set_append_left _ _ (by simpa using hk), List.map_set, List.append_assoc]
    rfl
  rw [← e]
  exact h.store j _

theorem Blk.wordAt {w : World} {g : Nat} {t : TypeId} {P S : List Value} {l : List W32} {x : W32} {k o j : Nat} (h : Blk w g t (P ++ l.map WV ++ S).toArray) (ho : P.length = o) (hj : j = o + k) (hx : l[k]? = some x) : w.cell? ⟨g, j, none⟩ = some (.int .u32 (U x)) := by
  have hk : k < l.length := (List.getElem?_eq_some_iff.1 hx).1
  subst ho hj
  rw [h.cell, List.getElem?_toArray, List.append_assoc, List.getElem?_append_right (by omega), Nat.add_sub_cancel_left, List.getElem?_append_left (by simpa using hk), List.getElem?_map, hx]
  rfl

end Go.Proofs.Ytehhgfkbcjbciaa
