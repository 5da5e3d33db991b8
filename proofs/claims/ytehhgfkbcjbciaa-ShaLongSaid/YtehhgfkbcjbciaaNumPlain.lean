/- Plain laws of numbers in bytes. -/
import Derived.Test.YtehhgfkbcjbciaaBase
namespace Go.Proofs.Ytehhgfkbcjbciaa

theorem ofNat8 (n : Nat) : (UInt8.ofNat n).toNat = n % 256 := by simp

/-- the lowest bytes of a number, the greatest first -/
def put (n : Nat) : Nat → List UInt8
  | 0 => []
  | s + 1 => UInt8.ofNat (n / 256 ^ s) :: put n s

/-- the number of bytes -/
def get (l : List UInt8) : Nat := l.foldl (fun n c => n * 256 + c.toNat) 0

theorem put_len (n s : Nat) : (put n s).length = s := by
  induction s with
  | zero => rfl
  | succ s ih => simp [put, ih]

theorem put_at (n s k : Nat) (h : k < s) : (put n s)[k]'(by rw [put_len]; exact h) = UInt8.ofNat (n / 256 ^ (s - 1 - k)) := by
  induction s generalizing k with
  | zero => omega
  | succ s ih =>
    cases k with
    | zero => simp [put]
    | succ k =>
      have := ih k (by omega)
      simp only [put, List.getElem_cons_succ, this]
      congr 3
      omega

theorem get_snoc (l : List UInt8) (c : UInt8) : get (l ++ [c]) = get l * 256 + c.toNat := by simp [get]

theorem get_fold (l : List UInt8) (a : Nat) : l.foldl (fun n c => n * 256 + c.toNat) a = a * 256 ^ l.length + get l := by
  induction l generalizing a with
  | nil => simp [get]
  | cons c l ih =>
    have h0 := ih (0 * 256 + c.toNat)
    simp only [get, List.foldl_cons, List.length_cons]
    rw [ih, h0, Nat.pow_succ, Nat.zero_mul, Nat.zero_add, Nat.add_mul, Nat.mul_comm (256 ^ l.length) 256, Nat.mul_assoc, Nat.add_assoc]

theorem get_cons (c : UInt8) (l : List UInt8) : get (c :: l) = c.toNat * 256 ^ l.length + get l := by
  have := get_fold l (0 * 256 + c.toNat)
  simpa [get] using this

theorem get_lt (l : List UInt8) : get l < 256 ^ l.length := by
  induction l with
  | nil => simp [get]
  | cons c l ih =>
    rw [get_cons, List.length_cons, Nat.pow_succ]
    have h1 := c.toNat_lt
    have h2 : (c.toNat + 1) * 256 ^ l.length ≤ 256 * 256 ^ l.length := Nat.mul_le_mul_right _ (by omega)
    rw [Nat.add_mul] at h2
    omega

theorem get_put (n s : Nat) : get (put n s) = n % 256 ^ s := by
  induction s with
  | zero => simp [put, get, Nat.mod_one]
  | succ s ih =>
    rw [put, get_cons, ih, put_len, Nat.pow_succ, Nat.mod_mul, ofNat8, Nat.mul_comm (256 ^ s), Nat.add_comm]

theorem get_put_lt (n s : Nat) (h : n < 256 ^ s) : get (put n s) = n := by rw [get_put, Nat.mod_eq_of_lt h]

theorem put_get (l : List UInt8) : put (get l) l.length = l := by
  induction l with
  | nil => rfl
  | cons c l ih =>
    have hp : 0 < 256 ^ l.length := Nat.pow_pos (by omega)
    have hl := get_lt l
    have h1 : get (c :: l) / 256 ^ l.length = c.toNat := by
      rw [get_cons, Nat.add_comm, Nat.add_mul_div_right _ _ hp, Nat.div_eq_of_lt hl, Nat.zero_add]
    have h2 : ∀ s, s ≤ l.length → put (get (c :: l)) s = put (get l) s := by
      intro s hs
      induction s with
      | zero => rfl
      | succ s ih2 =>
        rw [put, put, ih2 (by omega)]
        congr 1
        apply UInt8.toNat_inj.mp
        rw [ofNat8, ofNat8, get_cons]
        have e : (256 : Nat) ^ l.length = 256 ^ s * (256 * 256 ^ (l.length - 1 - s)) := by
          rw [← Nat.pow_succ', ← Nat.pow_add]; congr 1; omega
        rw [e, Nat.mul_comm c.toNat, Nat.mul_assoc, Nat.add_comm, Nat.add_mul_div_left _ _ (Nat.pow_pos (by omega)), Nat.mul_assoc]
        omega
    rw [List.length_cons, put, h1, h2 _ (Nat.le_refl _), ih]
    simp

end Go.Proofs.Ytehhgfkbcjbciaa
