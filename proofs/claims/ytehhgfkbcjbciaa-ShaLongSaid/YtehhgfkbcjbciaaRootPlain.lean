/- Numbers in digits of 16 bits; roots of primes: the plain laws. -/
import Derived.Test.YtehhgfkbcjbciaaShaPlain
namespace Go.Proofs.Ytehhgfkbcjbciaa

/-- what digits of 16 bits say, the lowest first -/
def val : List Nat → Nat
  | [] => 0
  | d :: l => d + 65536 * val l

/-- every digit is one -/
def Fine (l : List Nat) : Prop := ∀ t, l.getD t 0 < 65536

theorem val_append (a b : List Nat) : val (a ++ b) = val a + 65536 ^ a.length * val b := by
  induction a with
  | nil => simp [val]
  | cons d a ih =>
    simp only [List.cons_append, val, ih, List.length_cons, Nat.pow_succ]
    rw [Nat.mul_add, Nat.mul_comm (65536 ^ a.length) 65536, Nat.mul_assoc, Nat.add_assoc]

theorem val_zeros (n : Nat) : val (List.replicate n 0) = 0 := by
  induction n with
  | zero => rfl
  | succ n ih => simp [List.replicate_succ, val, ih]

theorem val_set (l : List Nat) (t x : Nat) (h : t < l.length) : val (l.set t x) + 65536 ^ t * l.getD t 0 = val l + 65536 ^ t * x := by
  induction l generalizing t with
  | nil => simp at h
  | cons d l ih =>
    cases t with
    | zero => simp [val]; omega
    | succ t =>
      have := ih t (by simpa using h)
      simp only [List.set_cons_succ, val, List.getD_cons_succ, Nat.pow_succ]
      have e1 : 65536 ^ t * 65536 * l.getD t 0 = 65536 * (65536 ^ t * l.getD t 0) := by rw [Nat.mul_comm (65536 ^ t) 65536, Nat.mul_assoc]
      have e2 : 65536 ^ t * 65536 * x = 65536 * (65536 ^ t * x) := by rw [Nat.mul_comm (65536 ^ t) 65536, Nat.mul_assoc]
      rw [e1, e2]
      omega

theorem val_ge (l : List Nat) (t : Nat) : 65536 ^ t * l.getD t 0 ≤ val l := by
  by_cases h : t < l.length
  · have := val_set l t 0 h
    omega
  · have e : l.getD t 0 = 0 := by
      rw [List.getD_eq_getElem?_getD, List.getElem?_eq_none (by omega)]
      rfl
    rw [e]
    omega

theorem val_lt (l : List Nat) (h : Fine l) : val l < 65536 ^ l.length := by
  induction l with
  | nil => simp [val]
  | cons d l ih =>
    have h0 : d < 65536 := h 0
    have h1 := ih (fun t => h (t + 1))
    simp only [val, List.length_cons, Nat.pow_succ]
    omega

theorem val_take_succ (l : List Nat) (k : Nat) (h : k < l.length) : val (l.take (k + 1)) = val (l.take k) + 65536 ^ k * l.getD k 0 := by
  rw [List.take_succ_eq_append_getElem h, val_append, List.length_take, Nat.min_eq_left (by omega), List.getD_eq_getElem?_getD, List.getElem?_eq_getElem h]
  simp [val]

theorem Fine.take {l : List Nat} (h : Fine l) (k : Nat) : Fine (l.take k) := fun t => by
  by_cases ht : t < k
  · rw [List.getD_eq_getElem?_getD, List.getElem?_take, if_pos ht, ← List.getD_eq_getElem?_getD]; exact h t
  · rw [List.getD_eq_getElem?_getD, List.getElem?_take, if_neg ht]; decide

theorem Fine.append {a b : List Nat} (ha : Fine a) (hb : Fine b) : Fine (a ++ b) := fun t => by
  by_cases ht : t < a.length
  · rw [List.getD_eq_getElem?_getD, List.getElem?_append_left ht, ← List.getD_eq_getElem?_getD]; exact ha t
  · rw [List.getD_eq_getElem?_getD, List.getElem?_append_right (by omega), ← List.getD_eq_getElem?_getD]; exact hb _

theorem Fine.nil : Fine [] := fun t => by simp
theorem Fine.one {d : Nat} (h : d < 65536) : Fine [d] := fun t => by cases t <;> simp [h]

theorem getD_set_eq (l : List Nat) (t x : Nat) (h : t < l.length) : (l.set t x).getD t 0 = x := by
  simp [List.getD_eq_getElem?_getD, h]

theorem getD_set_other (l : List Nat) (t s x : Nat) (h : t ≠ s) : (l.set t x).getD s 0 = l.getD s 0 := by
  simp [List.getD_eq_getElem?_getD, List.getElem?_set_ne h]

/-- on the way of a carry: all but the digit j are digits -/
structure Carry (N V j : Nat) (l : List Nat) : Prop where
  len : l.length = N
  say : val l = V
  fine : ∀ t, t ≠ j → l.getD t 0 < 65536
  big : l.getD j 0 < 8589934592

theorem Carry.lt {N V j : Nat} {l : List Nat} (h : Carry N V j l) (hb : 65535 < l.getD j 0) (hV : V < 65536 ^ (N - 1)) : j + 1 < N := by
  have h1 := val_ge l j
  rw [h.say] at h1
  have h2 : 65536 ^ j * 65536 ≤ 65536 ^ j * l.getD j 0 := Nat.mul_le_mul_left _ (by omega)
  have h3 : 65536 ^ (j + 1) < 65536 ^ (N - 1) := by rw [Nat.pow_succ]; omega
  have := (Nat.pow_lt_pow_iff_right (by omega : 1 < 65536)).1 h3
  omega

theorem Carry.next {N V j : Nat} {l : List Nat} (h : Carry N V j l) (hb : 65535 < l.getD j 0) (hV : V < 65536 ^ (N - 1)) :
    Carry N V (j + 1) ((l.set (j + 1) (l.getD (j + 1) 0 + l.getD j 0 / 65536)).set j (l.getD j 0 % 65536)) := by
  have hj := h.lt hb hV
  have hl := h.len
  have hf := h.fine (j + 1) (by omega)
  have hbig := h.big
  refine ⟨by simp [hl], ?_, fun t ht => ?_, ?_⟩
  · have e1 := val_set l (j + 1) (l.getD (j + 1) 0 + l.getD j 0 / 65536) (by omega)
    have e2 := val_set (l.set (j + 1) (l.getD (j + 1) 0 + l.getD j 0 / 65536)) j (l.getD j 0 % 65536) (by simp; omega)
    rw [getD_set_other _ _ _ _ (by omega : j + 1 ≠ j)] at e2
    have hv := h.say
    generalize l.getD j 0 = x at *
    generalize l.getD (j + 1) 0 = y at *
    generalize val ((l.set (j + 1) (y + x / 65536)).set j (x % 65536)) = A at *
    generalize val (l.set (j + 1) (y + x / 65536)) = Bv at *
    rw [Nat.pow_succ] at e1
    have e3 : 65536 ^ j * 65536 * (y + x / 65536) = 65536 ^ j * 65536 * y + 65536 ^ j * (65536 * (x / 65536)) := by rw [Nat.mul_add, Nat.mul_assoc (65536 ^ j) 65536 (x / 65536)]
    have e4 : 65536 ^ j * x = 65536 ^ j * (65536 * (x / 65536)) + 65536 ^ j * (x % 65536) := by rw [← Nat.mul_add, Nat.div_add_mod]
    omega
  · by_cases h1 : t = j
    · subst h1
      rw [getD_set_eq _ _ _ (by simp; omega)]
      omega
    · rw [getD_set_other _ _ _ _ (fun e => h1 e.symm), getD_set_other _ _ _ _ (fun e => ht e.symm)]
      exact h.fine t h1
  · rw [getD_set_other _ _ _ _ (by omega), getD_set_eq _ _ _ (by omega)]
    omega

theorem Carry.done {N V j : Nat} {l : List Nat} (h : Carry N V j l) (hb : l.getD j 0 ≤ 65535) : Fine l := fun t => by
  by_cases ht : t = j
  · subst ht; omega
  · exact h.fine t ht

/-- one product more -/
theorem Carry.start {N V : Nat} {l : List Nat} (hl : l.length = N) (hf : Fine l) (hv : val l = V) (j x : Nat) (hj : j < N) (hx : x < 4294967296) :
    Carry N (V + 65536 ^ j * x) j (l.set j (l.getD j 0 + x)) := by
  have h0 := hf j
  refine ⟨by simp [hl], ?_, fun t ht => ?_, ?_⟩
  · have e := val_set l j (l.getD j 0 + x) (by omega)
    rw [Nat.mul_add] at e
    omega
  · rw [getD_set_other _ _ _ _ (fun e => ht e.symm)]; exact hf t
  · rw [getD_set_eq _ _ _ (by omega)]; omega

/-- the part of a product stays below -/
theorem part_lt (a b : List Nat) (ha : Fine a) (hb : Fine b) (i k : Nat) (hi : i < a.length) (hk : k < b.length) :
    val (a.take i) * val b + 65536 ^ i * a.getD i 0 * val (b.take k) + 65536 ^ (i + k) * (a.getD i 0 * b.getD k 0) < 65536 ^ (a.length + b.length) := by
  have e1 := val_take_succ a i hi
  have e2 := val_take_succ b k hk
  have l1 := val_lt (a.take (i + 1)) (ha.take _)
  rw [List.length_take, Nat.min_eq_left (by omega)] at l1
  have l2 := val_lt b hb
  have m1 : val (b.take (k + 1)) ≤ val b := by
    conv => rhs; rw [← List.take_append_drop (k + 1) b, val_append]
    omega
  have e3 : 65536 ^ (i + k) * (a.getD i 0 * b.getD k 0) = 65536 ^ i * a.getD i 0 * (65536 ^ k * b.getD k 0) := by
    rw [Nat.pow_add]
    simp only [Nat.mul_assoc, Nat.mul_left_comm, Nat.mul_comm]
  have e4 : val (a.take i) * val b + 65536 ^ i * a.getD i 0 * val (b.take k) + 65536 ^ (i + k) * (a.getD i 0 * b.getD k 0) = val (a.take i) * val b + 65536 ^ i * a.getD i 0 * val (b.take (k + 1)) := by
    rw [e3, e2, Nat.mul_add, Nat.add_assoc]
  rw [e4]
  have h5 : val (a.take i) * val b + 65536 ^ i * a.getD i 0 * val (b.take (k + 1)) ≤ val (a.take (i + 1)) * val b := by
    rw [e1, Nat.add_mul]
    exact Nat.add_le_add_left (Nat.mul_le_mul_left _ m1) _
  have h6 : val (a.take (i + 1)) * val b ≤ val (a.take (i + 1)) * 65536 ^ b.length := Nat.mul_le_mul_left _ (Nat.le_of_lt l2)
  have h7 : val (a.take (i + 1)) * 65536 ^ b.length < 65536 ^ (i + 1) * 65536 ^ b.length := Nat.mul_lt_mul_of_pos_right l1 (Nat.pow_pos (by omega))
  have h8 : 65536 ^ (i + 1) * 65536 ^ b.length ≤ 65536 ^ (a.length + b.length) := by
    rw [← Nat.pow_add]
    exact Nat.pow_le_pow_right (by omega) (by omega)
  omega

theorem part_next (a b : List Nat) (i k : Nat) (hk : k < b.length) :
    val (a.take i) * val b + 65536 ^ i * a.getD i 0 * val (b.take k) + 65536 ^ (i + k) * (a.getD i 0 * b.getD k 0) = val (a.take i) * val b + 65536 ^ i * a.getD i 0 * val (b.take (k + 1)) := by
  have e2 := val_take_succ b k hk
  have e3 : 65536 ^ (i + k) * (a.getD i 0 * b.getD k 0) = 65536 ^ i * a.getD i 0 * (65536 ^ k * b.getD k 0) := by
    rw [Nat.pow_add]
    simp only [Nat.mul_assoc, Nat.mul_left_comm, Nat.mul_comm]
  rw [e3, e2, Nat.mul_add, Nat.add_assoc]

theorem mul_small (x y : Nat) (hx : x < 65536) (hy : y < 65536) : x * y < 4294967296 := by
  have h1 : x * y ≤ 65535 * y := Nat.mul_le_mul_right _ (by omega)
  omega

/-- digits compared from the top -/
theorem cmp_top (X Y : List Nat) (hl : X.length = Y.length) (hX : Fine X) (i : Nat) (hi : i < X.length) (hd : X.drop (i + 1) = Y.drop (i + 1)) (hlt : X.getD i 0 < Y.getD i 0) : val X < val Y := by
  have eX : X = X.take (i + 1) ++ X.drop (i + 1) := (List.take_append_drop _ _).symm
  have eY : Y = Y.take (i + 1) ++ Y.drop (i + 1) := (List.take_append_drop _ _).symm
  have vX : val X = val (X.take (i + 1)) + 65536 ^ (i + 1) * val (X.drop (i + 1)) := by
    conv => lhs; rw [eX, val_append, List.length_take, Nat.min_eq_left (by omega)]
  have vY : val Y = val (Y.take (i + 1)) + 65536 ^ (i + 1) * val (Y.drop (i + 1)) := by
    conv => lhs; rw [eY, val_append, List.length_take, Nat.min_eq_left (by omega)]
  rw [vX, vY, hd, val_take_succ X i hi, val_take_succ Y i (by omega)]
  have l1 := val_lt (X.take i) (hX.take _)
  rw [List.length_take, Nat.min_eq_left (by omega)] at l1
  have h1 : 65536 ^ i * (X.getD i 0 + 1) ≤ 65536 ^ i * Y.getD i 0 := Nat.mul_le_mul_left _ hlt
  rw [Nat.mul_add] at h1
  omega

theorem drop_next (X Y : List Nat) (i : Nat) (hX : i < X.length) (hY : i < Y.length) (hd : X.drop (i + 1) = Y.drop (i + 1)) (he : X.getD i 0 = Y.getD i 0) : X.drop i = Y.drop i := by
  rw [List.drop_eq_getElem_cons hX, List.drop_eq_getElem_cons hY, hd]
  congr 1
  simpa [List.getD_eq_getElem?_getD, List.getElem?_eq_getElem hX, List.getElem?_eq_getElem hY] using he

/-! ### Roots -/
theorem root_unique (N k a b : Nat) (ha : a ^ k ≤ N) (ha' : N < (a + 1) ^ k) (hb : b ^ k ≤ N) (hb' : N < (b + 1) ^ k) : a = b := by
  rcases Nat.lt_trichotomy a b with h | h | h
  · have := Nat.pow_le_pow_left (show a + 1 ≤ b by omega) k
    omega
  · exact h
  · have := Nat.pow_le_pow_left (show b + 1 ≤ a by omega) k
    omega

/-- is a number a prime? -/
def isP (n : Nat) : Bool := decide (1 < n) && (List.range n).all fun k => decide (k < 2) || decide (n < k * k) || decide (n % k ≠ 0)

theorem isP_no (n k : Nat) (h2 : 2 ≤ k) (hk : k * k ≤ n) (hm : n % k = 0) : isP n = false := by
  have hlt : k < n := by
    have : 2 * k ≤ k * k := Nat.mul_le_mul_right k h2
    omega
  unfold isP
  rw [Bool.and_eq_false_iff]
  right
  rw [List.all_eq_false]
  refine ⟨k, List.mem_range.2 hlt, ?_⟩
  simp [hm]
  omega

theorem isP_yes (n k : Nat) (hk : n < k * k) (h : ∀ j, 2 ≤ j → j < k → n % j ≠ 0) : isP n = decide (1 < n) := by
  unfold isP
  have : ((List.range n).all fun k => decide (k < 2) || decide (n < k * k) || decide (n % k ≠ 0)) = true := by
    rw [List.all_eq_true]
    intro j _
    by_cases h1 : j < 2
    · simp [h1]
    · by_cases h3 : j < k
      · simp [h j (by omega) h3]
      · have : k * k ≤ j * j := Nat.mul_le_mul (by omega) (by omega)
        simp [show n < j * j by omega]
  rw [this, Bool.and_true]

/-- the primes below n -/
def primes (n : Nat) : List Nat := (List.range n).filter isP

theorem primes_succ (n : Nat) : primes (n + 1) = if isP n then primes n ++ [n] else primes n := by
  unfold primes
  rw [List.range_succ, List.filter_append]
  cases h : isP n <;> simp [h]

theorem primes_mono (m n : Nat) (h : m ≤ n) : (primes m).length ≤ (primes n).length := by
  induction n with
  | zero => obtain rfl : m = 0 := by omega
            exact Nat.le_refl _
  | succ n ih =>
    by_cases hm : m = n + 1
    · rw [hm]; exact Nat.le_refl _
    · have := ih (by omega)
      rw [primes_succ]
      split
      · rw [List.length_append]; omega
      · exact this

theorem primes_311 : (primes 311).length = 63 := by decide +kernel
theorem primes_312 : (primes 312).length = 64 := by decide +kernel

/-- the whole part of a root -/
def whole (k n : Nat) : Nat := ((List.range 20).filter fun t => decide (1 ≤ t) && decide (t ^ k ≤ n)).length

/-- the roots times 2^32, out of the words -/
def rootOf (k : Nat) (n : Nat) (x : W32) : Nat := whole k n * 4294967296 + x.toNat

def rootsOk (k : Nat) (ps : List Nat) (xs : List W32) : Bool := (ps.zip xs).all fun (n, x) => decide (rootOf k n x ^ k ≤ n * 65536 ^ (2 * k)) && decide (n * 65536 ^ (2 * k) < (rootOf k n x + 1) ^ k) && decide (BitVec.ofNat 32 (rootOf k n x) = x) && decide (n ≤ 311) && decide (1 ≤ n)

theorem roots3 : rootsOk 3 (primes 312) ks = true := by decide +kernel
theorem roots2 : rootsOk 2 ((primes 312).take 8) h0s = true := by decide +kernel

end Go.Proofs.Ytehhgfkbcjbciaa
