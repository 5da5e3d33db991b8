/- Plain laws of the sums of chapter 1: what a bit's step does, that it can be undone, that the whole is linear. -/
import Derived.Test.YtehhgfkbcjbciaaWords
namespace Go.Proofs.Ytehhgfkbcjbciaa



def poly : W32 := 0x82f63b78#32

/-- one bit -/
def bitStep (x : W32) : W32 := (x >>> 1) ^^^ (if x.getLsbD 0 then poly else 0#32)

def stepN : Nat → W32 → W32
  | 0, x => x
  | n + 1, x => bitStep (stepN n x)

def byteStep (x : W32) (c : UInt8) : W32 := stepN 8 (x ^^^ BitVec.ofNat 32 c.toNat)

def crcFold (x : W32) (l : List UInt8) : W32 := l.foldl byteStep x

def crcMore (s : W32) (l : List UInt8) : W32 := ~~~ (crcFold (~~~ s) l)

def crcSum (l : List UInt8) : W32 := crcMore 0#32 l

theorem crcMore_append (s : W32) (a b : List UInt8) : crcMore (crcMore s a) b = crcMore s (a ++ b) := by
  unfold crcMore crcFold
  rw [BitVec.not_not, List.foldl_append]

theorem crcMore_sum (a b : List UInt8) : crcMore (crcSum a) b = crcSum (a ++ b) := crcMore_append _ _ _

theorem bitStep_xor (x y : W32) : bitStep (x ^^^ y) = bitStep x ^^^ bitStep y := by
  unfold bitStep
  rw [BitVec.ushiftRight_xor_distrib, BitVec.getLsbD_xor]
  cases x.getLsbD 0 <;> cases y.getLsbD 0 <;> simp
  · ac_rfl
  · ac_rfl
  · rw [show (x >>> 1 ^^^ poly ^^^ (y >>> 1 ^^^ poly)) = x >>> 1 ^^^ y >>> 1 ^^^ (poly ^^^ poly) by ac_rfl]
    simp

theorem stepN_xor (n : Nat) (x y : W32) : stepN n (x ^^^ y) = stepN n x ^^^ stepN n y := by
  induction n with
  | zero => rfl
  | succ n ih => simp only [stepN, ih, bitStep_xor]

theorem bitStep_top (x : W32) : (bitStep x).getLsbD 31 = x.getLsbD 0 := by
  unfold bitStep
  rw [BitVec.getLsbD_xor, BitVec.getLsbD_ushiftRight]
  have h : x.getLsbD (1 + 31) = false := BitVec.getLsbD_of_ge _ _ (by decide)
  rw [h]
  cases x.getLsbD 0 <;> simp [poly]

theorem ushr_inj {x y : W32} (h0 : x.getLsbD 0 = y.getLsbD 0) (h : x >>> 1 = y >>> 1) : x = y := by
  apply BitVec.eq_of_getLsbD_eq
  intro i hi
  rcases i with _ | i
  · exact h0
  · have := congrArg (fun z : W32 => z.getLsbD i) h
    simp only [BitVec.getLsbD_ushiftRight] at this
    rwa [Nat.add_comm] at this

theorem bitStep_inj {x y : W32} (h : bitStep x = bitStep y) : x = y := by
  have h0 : x.getLsbD 0 = y.getLsbD 0 := by rw [← bitStep_top, ← bitStep_top, h]
  refine ushr_inj h0 ?_
  unfold bitStep at h
  rw [h0] at h
  exact (BitVec.xor_left_inj _).mp h

theorem stepN_inj {n : Nat} {x y : W32} (h : stepN n x = stepN n y) : x = y := by
  induction n with
  | zero => exact h
  | succ n ih => exact ih (bitStep_inj h)

theorem crcFold_inj {l : List UInt8} {x y : W32} (h : crcFold x l = crcFold y l) : x = y := by
  induction l generalizing x y with
  | nil => exact h
  | cons c l ih =>
    have h1 := stepN_inj (ih h)
    have h2 := congrArg (· ^^^ BitVec.ofNat 32 c.toNat) h1
    simpa [BitVec.xor_assoc] using h2


/-- a bit's step undone, where the top bit says that nothing was taken in -/
theorem bitStep_undo {x : W32} (h : (bitStep x).getLsbD 31 = false) : x = bitStep x <<< 1 := by
  have h0 : x.getLsbD 0 = false := by rw [← bitStep_top]; exact h
  have e : bitStep x = x >>> 1 := by unfold bitStep; rw [h0]; simp
  rw [e]
  apply BitVec.eq_of_getLsbD_eq
  intro i hi
  rcases i with _ | i
  · rw [h0]; simp
  · rw [BitVec.getLsbD_shiftLeft, BitVec.getLsbD_ushiftRight]
    simp [hi, Nat.add_comm]

theorem stepN_undo {n : Nat} {x : W32} (hn : n ≤ 32) (h : ∀ i, 32 - n ≤ i → i < 32 → (stepN n x).getLsbD i = false) : x = stepN n x <<< n := by
  induction n with
  | zero => simp [stepN]
  | succ n ih =>
    have e : stepN n x = bitStep (stepN n x) <<< 1 := bitStep_undo (h 31 (by omega) (by omega))
    have := ih (by omega) (by
      intro i hi hi2
      rw [e, BitVec.getLsbD_shiftLeft]
      rcases i with _ | i
      · simp
      · have := h i (by omega) (by omega)
        simp only [stepN] at this
        simp [this])
    calc x = stepN n x <<< n := this
      _ = (bitStep (stepN n x) <<< 1) <<< n := by rw [← e]
      _ = stepN (n + 1) x <<< (n + 1) := by simp only [stepN]; rw [Nat.add_comm, BitVec.shiftLeft_add]

/-- what a difference of the words comes to behind differences of the bytes -/
def lin (d : W32) : List W32 → W32
  | [] => d
  | e :: es => lin (stepN 8 (d ^^^ e)) es

/-- the difference of the bytes as one number -/
def numOf : List W32 → W32
  | [] => 0#32
  | e :: es => e ^^^ (numOf es <<< 8)

def small8 (e : W32) : Prop := ∀ i, 8 ≤ i → e.getLsbD i = false

theorem numOf_low {es : List W32} (hs : ∀ e ∈ es, small8 e) : ∀ i, 8 * es.length ≤ i → (numOf es).getLsbD i = false := by
  induction es with
  | nil => intro i _; simp [numOf]
  | cons e es ih =>
    intro i hi
    simp only [List.length_cons] at hi
    have h1 := hs e (by simp) i (by omega)
    have h2 := ih (fun e' he' => hs e' (by simp [he'])) (i - 8) (by omega)
    simp [numOf, h1, h2]

theorem lin_zero {es : List W32} {d : W32} (hl : es.length ≤ 4) (hs : ∀ e ∈ es, small8 e) (h : lin d es = 0#32) : d = numOf es := by
  induction es generalizing d with
  | nil => exact h
  | cons e es ih =>
    simp only [List.length_cons] at hl
    have hs' : ∀ e' ∈ es, small8 e' := fun e' he' => hs e' (by simp [he'])
    have h1 : stepN 8 (d ^^^ e) = numOf es := ih (by omega) hs' h
    have h2 : d ^^^ e = stepN 8 (d ^^^ e) <<< 8 := stepN_undo (by omega) (by
      intro i hi _
      rw [h1]
      exact numOf_low hs' i (by omega))
    rw [h1] at h2
    have h3 : d ^^^ e ^^^ e = numOf es <<< 8 ^^^ e := by rw [h2]
    rw [BitVec.xor_assoc, BitVec.xor_self, BitVec.xor_zero] at h3
    rw [h3, numOf, BitVec.xor_comm]

theorem numOf_zero {es : List W32} (hl : es.length ≤ 4) (hs : ∀ e ∈ es, small8 e) (h : numOf es = 0#32) : ∀ e ∈ es, e = 0#32 := by
  induction es with
  | nil => intro e he; simp at he
  | cons e es ih =>
    simp only [List.length_cons] at hl
    have hs' : ∀ e' ∈ es, small8 e' := fun e' he' => hs e' (by simp [he'])
    have he : e = 0#32 := by
      apply BitVec.eq_of_getLsbD_eq
      intro i hi
      rcases Nat.lt_or_ge i 8 with h8 | h8
      · have := congrArg (fun z : W32 => z.getLsbD i) h
        simp [numOf, h8] at this
        simp [this]
      · rw [hs e (by simp) i h8]; simp
    have h2 : numOf es = 0#32 := by
      apply BitVec.eq_of_getLsbD_eq
      intro i hi
      rcases Nat.lt_or_ge i 24 with h8 | h8
      · have := congrArg (fun z : W32 => z.getLsbD (i + 8)) h
        simp [numOf, he, show i + 8 < 32 by omega] at this
        rw [BitVec.getLsbD_eq_getElem (by omega), this]; simp
      · rw [numOf_low hs' i (by omega)]; simp
    intro e' he'
    simp only [List.mem_cons] at he'
    rcases he' with rfl | he'
    · exact he
    · exact ih (by omega) hs' h2 e' he'

theorem small_w8 (c : UInt8) : small8 (w8 c) := by
  intro i hi
  unfold w8
  rw [BitVec.getLsbD_ofNat]
  have h : c.toNat < 2 ^ i := Nat.lt_of_lt_of_le c.toNat_lt (Nat.pow_le_pow_right (by omega) hi)
  simp [Nat.testBit_lt_two_pow h]

theorem small_xor {a b : W32} (ha : small8 a) (hb : small8 b) : small8 (a ^^^ b) := fun i hi => by simp [ha i hi, hb i hi]

theorem w8_inj {a b : UInt8} (h : w8 a = w8 b) : a = b := by
  have := congrArg BitVec.toNat h
  simp only [w8, BitVec.toNat_ofNat] at this
  have ha := a.toNat_lt
  have hb := b.toNat_lt
  exact UInt8.toNat_inj.mp (by omega)

theorem crcFold_lin {p q : List UInt8} (hl : p.length = q.length) (x y : W32) :
    crcFold x p ^^^ crcFold y q = lin (x ^^^ y) (List.zipWith (fun a b => w8 a ^^^ w8 b) p q) := by
  induction p generalizing q x y with
  | nil => cases q with
    | nil => rfl
    | cons => simp at hl
  | cons a p ih => cases q with
    | nil => simp at hl
    | cons b q =>
      simp only [List.length_cons, Nat.add_right_cancel_iff] at hl
      show crcFold (byteStep x a) p ^^^ crcFold (byteStep y b) q = _
      rw [ih hl]
      simp only [List.zipWith_cons_cons, lin]
      congr 1
      unfold byteStep
      rw [← stepN_xor]
      congr 1
      show x ^^^ w8 a ^^^ (y ^^^ w8 b) = _
      ac_rfl

theorem burst_inj {x : W32} {p q : List UInt8} (hl : p.length = q.length) (h4 : p.length ≤ 4) (h : crcFold x p = crcFold x q) : p = q := by
  have h1 := crcFold_lin hl x x
  rw [h, BitVec.xor_self, BitVec.xor_self] at h1
  have hsm : ∀ e ∈ List.zipWith (fun a b => w8 a ^^^ w8 b) p q, small8 e := by
    intro e he
    rw [← List.map_uncurry_zip_eq_zipWith, List.mem_map] at he
    obtain ⟨⟨a, b⟩, _, rfl⟩ := he
    exact small_xor (small_w8 a) (small_w8 b)
  have hlen : (List.zipWith (fun a b => w8 a ^^^ w8 b) p q).length ≤ 4 := by simp; omega
  have h2 := numOf_zero hlen hsm (lin_zero hlen hsm h1.symm).symm
  clear h1 hsm hlen h h4
  induction p generalizing q with
  | nil => cases q with
    | nil => rfl
    | cons => simp at hl
  | cons a p ih => cases q with
    | nil => simp at hl
    | cons b q =>
      simp only [List.length_cons, Nat.add_right_cancel_iff] at hl
      have h3 := h2 (w8 a ^^^ w8 b) (by simp)
      have h4 : a = b := w8_inj (by
        have := congrArg (· ^^^ w8 b) h3
        simpa [BitVec.xor_assoc] using this)
      rw [h4, ih hl (fun e he => h2 e (by simp [he]))]

/-- up to four bytes behind one another that were changed change the sum -/
theorem crcSum_burst (a m m' s : List UInt8) (hl : m.length = m'.length) (h4 : m.length ≤ 4) (h : crcSum (a ++ m ++ s) = crcSum (a ++ m' ++ s)) : m = m' := by
  unfold crcSum crcMore at h
  have h1 := BitVec.not_inj.mp h
  unfold crcFold at h1
  simp only [List.foldl_append] at h1
  exact burst_inj hl h4 (crcFold_inj h1)

/-- of three texts of one length -/
theorem crcFold_three {a b c : List UInt8} (hb : a.length = b.length) (hc : a.length = c.length) (x y z : W32) :
    crcFold (x ^^^ y ^^^ z) (List.zipWith (· ^^^ ·) (List.zipWith (· ^^^ ·) a b) c) = crcFold x a ^^^ crcFold y b ^^^ crcFold z c := by
  induction a generalizing b c x y z with
  | nil => cases b with
    | nil => cases c with
      | nil => rfl
      | cons => simp at hc
    | cons => simp at hb
  | cons i a ih => cases b with
    | nil => simp at hb
    | cons j b => cases c with
      | nil => simp at hc
      | cons k c =>
        simp only [List.length_cons, Nat.add_right_cancel_iff] at hb hc
        show crcFold (byteStep (x ^^^ y ^^^ z) (i ^^^ j ^^^ k)) _ = crcFold (byteStep x i) a ^^^ crcFold (byteStep y j) b ^^^ crcFold (byteStep z k) c
        rw [← ih hb hc]
        congr 1
        unfold byteStep
        rw [← stepN_xor, ← stepN_xor]
        congr 1
        have e : BitVec.ofNat 32 (i ^^^ j ^^^ k).toNat = BitVec.ofNat 32 i.toNat ^^^ BitVec.ofNat 32 j.toNat ^^^ BitVec.ofNat 32 k.toNat := by
          apply BitVec.eq_of_getLsbD_eq
          intro n hn
          simp [UInt8.toNat_xor, hn]
        rw [e]
        ac_rfl

theorem crcSum_three {a b c : List UInt8} (hb : a.length = b.length) (hc : a.length = c.length) :
    crcSum (List.zipWith (· ^^^ ·) (List.zipWith (· ^^^ ·) a b) c) = crcSum a ^^^ crcSum b ^^^ crcSum c := by
  have h := crcFold_three hb hc (~~~ 0#32) (~~~ 0#32) (~~~ 0#32)
  unfold crcSum crcMore
  have e : (~~~ 0#32 ^^^ ~~~ 0#32 ^^^ ~~~ 0#32 : W32) = ~~~ 0#32 := by decide
  rw [e] at h
  rw [h]
  generalize crcFold _ a = x
  generalize crcFold _ b = y
  generalize crcFold _ c = z
  apply BitVec.eq_of_getLsbD_eq
  intro i hi
  simp [hi]

theorem crcSum_digits : crcSum [49, 50, 51, 52, 53, 54, 55, 56, 57] = 0xe3069283#32 := by decide +kernel
theorem crcSum_nil : crcSum [] = 0#32 := by decide

end Go.Proofs.Ytehhgfkbcjbciaa
