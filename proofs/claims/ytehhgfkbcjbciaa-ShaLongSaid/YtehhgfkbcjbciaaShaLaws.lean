/- SHA-256: plain laws of blocks; a slice of bytes in the midst of a block of the call's own. -/
import Derived.Test.YtehhgfkbcjbciaaMixLaws
namespace Go.Proofs.Ytehhgfkbcjbciaa
open Go.RowKit

theorem mixS_len (h : List W32) (b : List UInt8) (hl : h.length = 8) : (mixS h b).length = 8 := by
  unfold mixS
  rw [List.length_zipWith, rnds_len h b 64 hl, hl]
  rfl

theorem blocks_len (h : List W32) (b : List UInt8) (hl : h.length = 8) : ∀ n, (blocks h b n).length = 8
  | 0 => hl
  | n + 1 => mixS_len _ _ (blocks_len h b hl n)

theorem blocks_left (h : List W32) (x y : List UInt8) : ∀ n, 64 * n ≤ x.length → blocks h (x ++ y) n = blocks h x n
  | 0, _ => rfl
  | n + 1, hn => by
    unfold blocks
    rw [blocks_left h x y n (by omega), List.drop_append_of_le_length (by omega), List.take_append_of_le_length (by simp; omega)]

theorem blocks_append (h : List W32) (x y : List UInt8) (k : Nat) (hk : x.length = 64 * k) : ∀ j, blocks h (x ++ y) (k + j) = blocks (blocks h x k) y j
  | 0 => blocks_left h x y k (by omega)
  | j + 1 => by
    show mixS (blocks h (x ++ y) (k + j)) (((x ++ y).drop (64 * (k + j))).take 64) = mixS (blocks (blocks h x k) y j) ((y.drop (64 * j)).take 64)
    rw [blocks_append h x y k hk j, List.drop_append, List.drop_eq_nil_of_le (by omega), List.nil_append, show 64 * (k + j) - x.length = 64 * j from by omega]

theorem padded_len (b : List UInt8) : (padded b).length % 64 = 0 := by
  unfold padded
  simp only [List.length_append, List.length_cons, List.length_nil, List.length_replicate, put_len]
  omega

/-- what is left of a text behind its whole blocks, filled up -/
def tail (M : List UInt8) : List UInt8 := M.drop (64 * (M.length / 64)) ++ [128] ++ List.replicate ((119 - M.length % 64) % 64) 0 ++ put (M.length * 8) 8

theorem tail_len (M : List UInt8) : (tail M).length % 64 = 0 := by
  unfold tail
  simp only [List.length_append, List.length_cons, List.length_nil, List.length_replicate, List.length_drop, put_len]
  omega

theorem padded_tail (M : List UInt8) : padded M = M.take (64 * (M.length / 64)) ++ tail M := by
  unfold padded tail
  conv => lhs; rw [← List.take_append_drop (64 * (M.length / 64)) M]
  simp only [List.append_assoc, List.length_append, List.length_take, List.length_drop]
  have e : min (64 * (M.length / 64)) M.length + (M.length - 64 * (M.length / 64)) = M.length := by omega
  rw [e]

theorem sha_tail (M : List UInt8) : sha M = (blocks (blocks h0s M (M.length / 64)) (tail M) ((tail M).length / 64)).flatMap fun x => put x.toNat 4 := by
  have hl : (M.take (64 * (M.length / 64))).length = 64 * (M.length / 64) := by rw [List.length_take]; omega
  have ht := tail_len M
  unfold sha
  rw [padded_tail, List.length_append, hl, show (64 * (M.length / 64) + (tail M).length) / 64 = M.length / 64 + (tail M).length / 64 from by omega, blocks_append h0s _ _ _ hl]
  congr 2
  have e := blocks_left h0s (M.take (64 * (M.length / 64))) (M.drop (64 * (M.length / 64))) (M.length / 64) (by rw [hl]; exact Nat.le_refl _)
  rw [List.take_append_drop] at e
  rw [e]

end Go.Proofs.Ytehhgfkbcjbciaa
