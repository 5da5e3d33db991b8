/- stillroomref1.root, prime, first. -/
import Derived.Test.YtehhgfkbcjbciaaBelow
namespace Go.Proofs.Ytehhgfkbcjbciaa
open Go.RowKit

theorem root_top (n k : Nat) (hn : n ≤ 311) (hk : k = 2 ∨ k = 3) : n * 65536 ^ (2 * k) < 137438953472 ^ k := by
  have h1 : n * 65536 ^ (2 * k) ≤ 311 * 65536 ^ (2 * k) := Nat.mul_le_mul_right _ hn
  rcases hk with rfl | rfl
  · exact Nat.lt_of_le_of_lt h1 (by decide)
  · exact Nat.lt_of_le_of_lt h1 (by decide)

/-- a root's word -/
def Rooted (w : World) (r : Nat) (e : Ending) (w' : World) : Prop := e = .returned (.int .u32 (U (BitVec.ofNat 32 r))) ∧ Below w.heap.size w w'

theorem low_word (r : Nat) : (r : Int) % 4294967296 = U (BitVec.ofNat 32 r) := by
  unfold U
  rw [BitVec.toNat_ofNat]
  omega

set_option maxRecDepth 100000 in
set_option maxHeartbeats 1000000 in
theorem root_any (n k r : Nat) (w : World) (hn : n ≤ 311) (hk : k = 2 ∨ k = 3) (h1 : r ^ k ≤ n * 65536 ^ (2 * k)) (h2 : n * 65536 ^ (2 * k) < (r + 1) ^ k) :
    Calls Try.prog 61 #[.int .i64 (n : Int), .int .i64 (k : Int)] w (Rooted w r) := by
  have htop := Lib.hid (root_top n k hn hk)
  have H1 := Lib.hid h1
  have H2 := Lib.hid h2
  have hk2 : 2 ≤ k := by omega
  have hk3 : k ≤ 3 := by omega
  have HK := Lib.hid hk
  clear h1 h2 hk
  go_enter Try.func61, Try.ntmps61
  go_wp2_with fail
  go_loopw [5, 6] (fun lov hiv wr => ∃ lo hi : Nat, lov = .int .u64 lo ∧ hiv = .int .u64 hi ∧ lo < hi ∧ (hi : Int) ≤ 137438953472 ∧ Hid (lo ^ k ≤ n * 65536 ^ (2 * k) ∧ n * 65536 ^ (2 * k) < hi ^ k) ∧ Below w.heap.size w wr) (fun lov hiv _ => (intOf hiv - intOf lov).toNat)
  case atStart => exact ⟨0, 137438953472, rfl, rfl, by omega, by omega, Lib.hid ⟨by rw [Nat.zero_pow (by omega)]; exact Nat.zero_le _, htop.out⟩, Below.refl _ _⟩
  case round =>
    obtain ⟨lo, hi, rfl, rfl, hlh, hhi, hinv, bel⟩ := hrel
    have hsz := bel.size
    by_cases hlt : lo + 1 < hi
    · obtain ⟨m, hm⟩ : ∃ m, m = (lo + hi) / 2 := ⟨_, rfl⟩
      have hmI : ((lo : Int) + (hi : Int)) / 2 = (m : Int) := by omega
      have hlm : lo < m := by omega
      have hmh : m < hi := by omega
      have hltI : (lo : Int) + 1 < (hi : Int) := by omega
      have BEL := Lib.hid bel
      clear bel hm
      go_wp2_with fail
      refine (below_any m n k wr (by omega) (by omega) hk3).mono ?_
      rintro e w2 ⟨rfl, b2⟩
      have bel2 := BEL.out.trans (b2.mono hsz)
      clear b2
      by_cases hle : m ^ k ≤ n * 65536 ^ (2 * k)
      · rw [decide_eq_true hle]
        have hinv2 : Hid (m ^ k ≤ n * 65536 ^ (2 * k) ∧ n * 65536 ^ (2 * k) < hi ^ k) := Lib.hid ⟨hle, hinv.out.2⟩
        clear hle
        go_wp2_with fail
        exact ⟨⟨m, hi, rfl, rfl, hmh, hhi, hinv2, bel2⟩, by simp [intOf]; omega⟩
      · rw [decide_eq_false hle]
        have hinv2 : Hid (lo ^ k ≤ n * 65536 ^ (2 * k) ∧ n * 65536 ^ (2 * k) < m ^ k) := Lib.hid ⟨hinv.out.1, by omega⟩
        clear hle
        go_wp2_with fail
        exact ⟨⟨lo, m, rfl, rfl, hlm, by omega, hinv2, bel2⟩, by simp [intOf]; omega⟩
    · have hhl : hi = lo + 1 := by omega
      have hr := root_unique (n * 65536 ^ (2 * k)) k lo r hinv.out.1 (by rw [← hhl]; exact hinv.out.2) H1.out H2.out
      subst hhl
      subst hr
      clear hlt
      go_wp2_with fail
      go_ret
      exact ⟨by rw [← low_word]; rfl, bel⟩

set_option maxRecDepth 100000 in
set_option maxHeartbeats 1000000 in
theorem prime_any (n : Nat) (r : Bool) (w : World) (hn : n ≤ 400) (hr : isP n = r) :
    Calls Try.prog 71 #[.int .i64 (n : Int)] w fun e w' => e = .returned (.bool r) ∧ w = w' := by
  have HR := Lib.hid hr
  clear hr
  go_enter Try.func71, Try.ntmps71
  go_wp2_with fail
  go_loop [3] (fun kv => ∃ k : Nat, kv = .int .i64 k ∧ 2 ≤ k ∧ k ≤ 401 ∧ Hid (∀ j, 2 ≤ j → j < k → n % j ≠ 0)) (fun kv => 500 - (intOf kv).toNat)
  case atStart => exact ⟨2, rfl, by omega, by omega, Lib.hid fun j h1 h2 => by omega⟩
  case round =>
    obtain ⟨k, rfl, hk2, hk4, hall⟩ := hrel
    obtain ⟨q, hq⟩ : ∃ q, q = k * k := ⟨_, rfl⟩
    have hqb : q ≤ 160801 := by rw [hq]; exact Nat.mul_le_mul hk4 hk4
    have hmul : (k : Int) * (k : Int) = (q : Int) := by rw [hq]; exact (Int.natCast_mul k k).symm
    have HQ := Lib.hid hq
    have hkq : k ≤ q := by rw [hq]; exact Nat.le_mul_of_pos_left k (by omega)
    clear hq
    by_cases hle : q ≤ n
    · obtain ⟨m, hm⟩ : ∃ m, m = n % k := ⟨_, rfl⟩
      have hmod : (n : Int) % (k : Int) = (m : Int) := by rw [hm]; exact (Int.natCast_emod n k).symm
      have hk0 : (1 : Int) ≤ (k : Int) := by omega
      have HM := Lib.hid hm
      clear hm
      by_cases h0 : m = 0
      · have hno := isP_no n k hk2 (by rw [← HQ.out]; exact hle) (by rw [← HM.out]; exact h0)
        rw [HR.out] at hno
        subst h0
        have HNO := Lib.hid hno
        clear hno
        go_wp2_with fail
        go_ret
        exact ⟨by rw [HNO.out]; rfl, rfl⟩
      · have hall2 : Hid (∀ j, 2 ≤ j → j < k + 1 → n % j ≠ 0) := Lib.hid fun j h1 h2 => by
          by_cases hj : j = k
          · rw [hj, ← HM.out]; exact h0
          · exact hall.out j h1 (by omega)
        have t1 : ¬ ((m : Int) = 0) := by omega
        have t2 : ((m : Int) == 0) = false := by rw [beq_eq_false_iff_ne]; exact t1
        go_wp2_with fail
        exact ⟨⟨k + 1, by simp, by omega, by omega, hall2⟩, by simp [intOf]; omega⟩
    · have hyes := isP_yes n k (by rw [← HQ.out]; omega) hall.out
      rw [HR.out] at hyes
      have HY := Lib.hid hyes
      clear hyes
      by_cases h1 : 1 < n
      · have h1I : (1 : Int) < (n : Int) := by omega
        go_wp2_with fail
        go_ret
        exact ⟨by rw [HY.out, decide_eq_true h1]; simp, rfl⟩
      · have h1I : ¬ (1 : Int) < (n : Int) := by omega
        go_wp2_with fail
        go_ret
        exact ⟨by rw [HY.out, decide_eq_false h1]; simp, rfl⟩

theorem primes_two : primes 2 = [] := by decide +kernel

/-- the first primes -/
def Firsts (w : World) (e : Ending) (w' : World) : Prop := ∃ v, e = .returned v ∧ OwnI .i64 3 w' w.heap.size v (primes 312) ∧ Below w.heap.size w w'

set_option maxRecDepth 100000 in
set_option maxHeartbeats 1000000 in
theorem first_any (w : World) : Calls Try.prog 60 #[.int .i64 64] w (Firsts w) := by
  go_enter Try.func60, Try.ntmps60
  go_wp2_with fail
  go_loopw [3, 4] (fun lv pv wr => ∃ p : Nat, pv = .int .i64 p ∧ 2 ≤ p ∧ p ≤ 312 ∧ OwnI .i64 3 wr w.heap.size lv (primes p) ∧ Below w.heap.size w wr) (fun _ pv _ => 400 - (intOf pv).toNat)
  case atStart => exact ⟨2, rfl, by omega, by omega, by rw [primes_two]; exact OwnI.nil _ _, Below.refl _ _⟩
  case round =>
    obtain ⟨p, rfl, hp2, hp3, own, bel⟩ := hrel
    have hsz := bel.size
    obtain ⟨A, n, c, rfl, hn, _, _, rd⟩ := own.slice'
    have OWN := Lib.hid own
    have BEL := Lib.hid bel
    clear own bel
    by_cases hlt : p ≤ 311
    · have hn63 : n ≤ 63 := by
        rw [hn.out]
        have := primes_mono p 311 hlt
        rw [primes_311] at this
        exact this
      have hnI : (n : Int) < 64 := by omega
      have hlen : (primes p).length + ([p] : List Nat).length ≤ 1000000 := by rw [← hn.out]; simp; omega
      have HLEN := Lib.hid hlen
      clear rd hlen
      have hsucc := primes_succ p
      cases hb : isP p with
      | true =>
        rw [hb, if_pos rfl] at hsucc
        have HS := Lib.hid hsucc
        have HB := Lib.hid hb
        clear hsucc hb
        go_wp2_with fail
        refine (prime_any p true wr (by omega) HB.out).mono ?_
        rintro e w' ⟨rfl, rfl⟩
        go_wp2_with (at_builtin; refine wpList_append_int numI rfl (.tmp 13) (.tmp 15) rfl w.heap.size (.slice A n c) (primes p) rfl (OWN.out.alloc _) (wr.heap.size + 1) (some ⟨wr.heap.size, 0, none⟩) 1 1 [p] rfl rfl (Rd.new wr _ _ _) HLEN.out (by simp; omega) ?_; intro v2 w2 own2 g2 _; replace own2 := Lib.hid own2; replace g2 := Lib.hid g2)
        exact ⟨⟨p + 1, by simp, by omega, by omega, by rw [HS.out]; exact own2.out, (BEL.out.alloc hsz _).grown g2.out (by simp; omega) (fun k hk => (OWN.out.lt k hk).1)⟩, by simp [intOf]; omega⟩
      | false =>
        rw [hb, if_neg (by decide)] at hsucc
        have HS := Lib.hid hsucc
        have HB := Lib.hid hb
        clear hsucc hb
        go_wp2_with fail
        refine (prime_any p false wr (by omega) HB.out).mono ?_
        rintro e w' ⟨rfl, rfl⟩
        go_wp2_with fail
        exact ⟨⟨p + 1, by simp, by omega, by omega, by rw [HS.out]; exact OWN.out, BEL.out⟩, by simp [intOf]; omega⟩
    · obtain rfl : p = 312 := by omega
      have hn64 : n = 64 := by rw [hn.out, primes_312]
      subst hn64
      clear hn hlt
      go_wp2_with fail
      go_ret
      exact ⟨_, rfl, OWN.out, BEL.out⟩

end Go.Proofs.Ytehhgfkbcjbciaa
