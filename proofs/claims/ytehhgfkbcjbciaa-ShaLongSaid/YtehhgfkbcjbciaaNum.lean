/- num.Put, num.Get and the reference's are those of the plain laws. -/
import Derived.Test.YtehhgfkbcjbciaaBytes
import Derived.Test.YtehhgfkbcjbciaaNumPlain
import Derived.Laws.BitsAll
namespace Go.Proofs.Ytehhgfkbcjbciaa
open Go.RowKit

/-- the first k bytes of a number of s bytes, and the next one -/
theorem put_take_snoc (n s k : Nat) (h : k < s) : (put n s).take (k + 1) = (put n s).take k ++ [UInt8.ofNat (n / 256 ^ (s - 1 - k))] := by
  rw [List.take_succ_eq_append_getElem (by rw [put_len]; exact h), put_at n s k h]

theorem byte_of (n j : Nat) : (((n : Int) / 2 ^ (8 * j)) % 256) = ((UInt8.ofNat (n / 256 ^ j)).toNat : Int) := by
  rw [ofNat8, show (256 : Nat) = 2 ^ 8 from rfl, ← Nat.pow_mul]
  simp

set_option maxHeartbeats 400000 in
theorem numPut_any (n s : Nat) (w : World) (base : Nat) (hs : s ≤ 8) (hn : n < 18446744073709551616) (hb : base ≤ w.heap.size) :
    Calls Try.prog 53 #[.int .u64 (n : Int), .int .i64 (s : Int)] w fun e w' => ∃ v, e = .returned v ∧ OwnB w' base v (put n s) ∧ Below w.heap.size w w' := by
  have Hn := Lib.hid hn
  clear hn
  go_enter Try.func53, Try.ntmps53
  go_wp2
  go_loopw [5, 6] (fun v i wr => ∃ k j : Nat, k + j = s ∧ i = .int .i64 ((j : Int) - 1) ∧ OwnB wr w.heap.size v ((put n s).take k) ∧ Below w.heap.size w wr) (fun _ i _ => (intOf i + 1).toNat)
  case atStart => exact ⟨0, s, by omega, rfl, OwnB.nil _ _, Below.refl _ _⟩
  case round =>
    obtain ⟨k, j, hkj, rfl, own, hbel⟩ := hrel
    cases j with
    | zero =>
      obtain rfl : k = s := by omega
      rw [List.take_of_length_le (by rw [put_len]; omega)] at own
      go_wp2
      go_ret
      exact ⟨_, rfl, own.base hb, hbel⟩
    | succ j =>
      rw [show (((j + 1 : Nat) : Int) - 1) = (j : Int) from by omega]
      have hj : j < 8 := by omega
      have hbs := hbel.size
      have htk : ((put n s).take k).length = k := by rw [List.length_take, put_len]; omega
      go_wp2_with (at_builtin; rw [byte_of n j]; refine wpList_append_u8 rfl (.tmp 19) (.tmp 25) rfl w.heap.size u5 ((put n s).take k) rfl (own.below ((Below.refl _ _).alloc (Nat.le_refl _) _)) (wr.heap.size + 1) (some ⟨wr.heap.size, 0, none⟩) 1 1 [UInt8.ofNat (n / 256 ^ j)] rfl rfl (Rd.new wr _ _ _) (by rw [htk]; simp; omega) (by simp; omega) ?_; intro v2 w2 own2 g2)
      have hb2 : Below w.heap.size w w2 := (hbel.alloc hbs _).grown g2 (by simp; omega) (fun g hg => (own.lt g hg).1)
      go_wp2
      go_roundw
      case rel => exact ⟨k + 1, j, by omega, rfl, by rw [put_take_snoc n s k (by omega), show s - 1 - k = j from by omega]; exact own2, hb2⟩
      case measure => simp [intOf]

set_option maxHeartbeats 400000 in
theorem refPut_any (n s : Nat) (w : World) (base : Nat) (hs : s ≤ 8) (hn : n < 18446744073709551616) (hb : base ≤ w.heap.size) :
    Calls Try.prog 54 #[.int .u64 (n : Int), .int .i64 (s : Int)] w fun e w' => ∃ v, e = .returned v ∧ OwnB w' base v (put n s) ∧ Below w.heap.size w w' := by
  have Hn := Lib.hid hn
  clear hn
  go_enter Try.func54, Try.ntmps54
  go_wp2
  go_loopw [5, 6] (fun v i wr => ∃ k j : Nat, k + j = s ∧ i = .int .i64 ((j : Int) - 1) ∧ OwnB wr w.heap.size v ((put n s).take k) ∧ Below w.heap.size w wr) (fun _ i _ => (intOf i + 1).toNat)
  case atStart => exact ⟨0, s, by omega, rfl, OwnB.nil _ _, Below.refl _ _⟩
  case round =>
    obtain ⟨k, j, hkj, rfl, own, hbel⟩ := hrel
    cases j with
    | zero =>
      obtain rfl : k = s := by omega
      rw [List.take_of_length_le (by rw [put_len]; omega)] at own
      go_wp2
      go_ret
      exact ⟨_, rfl, own.base hb, hbel⟩
    | succ j =>
      rw [show (((j + 1 : Nat) : Int) - 1) = (j : Int) from by omega]
      have hj : j < 8 := by omega
      have hbs := hbel.size
      have htk : ((put n s).take k).length = k := by rw [List.length_take, put_len]; omega
      go_wp2_with (at_builtin; rw [byte_of n j]; refine wpList_append_u8 rfl (.tmp 19) (.tmp 26) rfl w.heap.size u5 ((put n s).take k) rfl (own.below ((Below.refl _ _).alloc (Nat.le_refl _) _)) (wr.heap.size + 1) (some ⟨wr.heap.size, 0, none⟩) 1 1 [UInt8.ofNat (n / 256 ^ j)] rfl rfl (Rd.new wr _ _ _) (by rw [htk]; simp; omega) (by simp; omega) ?_; intro v2 w2 own2 g2)
      have hb2 : Below w.heap.size w w2 := (hbel.alloc hbs _).grown g2 (by simp; omega) (fun g hg => (own.lt g hg).1)
      go_wp2
      go_roundw
      case rel => exact ⟨k + 1, j, by omega, rfl, by rw [put_take_snoc n s k (by omega), show s - 1 - k = j from by omega]; exact own2, hb2⟩
      case measure => simp [intOf]

theorem shl_or (a : Nat) (c : UInt8) (h : a < 72057594037927936) : bits .or .u64 ((a : Int) * 256) (c.toNat : Int) = ((a * 256 + c.toNat : Nat) : Int) := by
  have hc := c.toNat_lt
  rw [u64_or _ _ (by omega) (by omega) (by omega) (by omega)]
  congr 1
  have e : ((a : Int) * 256).toNat = a <<< 8 := by rw [Nat.shiftLeft_eq]; omega
  rw [e, Int.toNat_natCast, ← Nat.shiftLeft_add_eq_or_of_lt (by omega), Nat.shiftLeft_eq]

theorem wrap64_nat (n : Nat) (h : n < 18446744073709551616) : IntKind.u64.wrap (n : Int) = (n : Int) := by
  rw [IntKind.wrap_u64]; omega

theorem get_or (a : Nat) (c : UInt8) (h : a < 72057594037927936) : bits .or .u64 (IntKind.u64.wrap ((a : Int) * 256)) (IntKind.u64.wrap (c.toNat : Int)) = ((a * 256 + c.toNat : Nat) : Int) := by
  have hc := c.toNat_lt
  rw [← shl_or a c h, wrap64_nat c.toNat (by omega), show (a : Int) * 256 = ((a * 256 : Nat) : Int) from by omega, wrap64_nat _ (by omega)]

theorem get_add (a : Nat) (c : UInt8) (h : a < 72057594037927936) : IntKind.u64.wrap (IntKind.u64.wrap ((a : Int) * 256) + IntKind.u64.wrap (c.toNat : Int)) = ((a * 256 + c.toNat : Nat) : Int) := by
  have hc := c.toNat_lt
  rw [wrap64_nat c.toNat (by omega), show (a : Int) * 256 = ((a * 256 : Nat) : Int) from by omega, wrap64_nat _ (by omega), show ((a * 256 : Nat) : Int) + (c.toNat : Int) = ((a * 256 + c.toNat : Nat) : Int) from by omega, wrap64_nat _ (by omega)]

theorem get_take_lt (l : List UInt8) (k : Nat) (h : k < l.length) (hl : l.length ≤ 8) : get (l.take k) < 72057594037927936 := by
  have h1 := get_lt (l.take k)
  have h2 : (l.take k).length ≤ 7 := by simp; omega
  have h3 : 256 ^ (l.take k).length ≤ 256 ^ 7 := Nat.pow_le_pow_right (by omega) h2
  omega

theorem get_take_snoc (l : List UInt8) (k : Nat) (h : k < l.length) : get (l.take (k + 1)) = get (l.take k) * 256 + l[k].toNat := by
  rw [List.take_succ_eq_append_getElem h, get_snoc]

set_option maxHeartbeats 400000 in
theorem numGet_any (A : Option Addr) (c : Nat) (l : List UInt8) (w : World) (D : Nat) (hr : RdB w D A l) (hl : l.length ≤ 8) :
    Calls Try.prog 56 #[.slice A l.length c] w fun e w' => e = .returned (.int .u64 (get l : Int)) ∧ w = w' := by
  go_enter Try.func56, Try.ntmps56
  go_wp2
  go_loop [3, 8] (fun n i => ∃ k : Nat, k ≤ l.length ∧ i = .int .i64 k ∧ n = .int .u64 (get (l.take k) : Int)) (fun _ i => l.length - (intOf i).toNat)
  case atStart => exact ⟨0, Nat.zero_le _, rfl, rfl⟩
  case round =>
    obtain ⟨k, hk, rfl, rfl⟩ := hrel
    by_cases hlt : k < l.length
    · obtain ⟨b, off, rfl, hb, hc⟩ := hr.at_ (k := k) (by simpa using hlt)
      simp only [List.getElem_map, B] at hc
      go_wp2
      go_round
      case rel => exact ⟨k + 1, by omega, by go_num, by rw [get_or _ _ (get_take_lt l k hlt hl), get_take_snoc l k hlt]⟩
      case measure => simp [intOf]; omega
    · obtain rfl : k = l.length := by omega
      rw [List.take_length]
      go_wp2
      go_ret
      exact ⟨rfl, rfl⟩

set_option maxHeartbeats 400000 in
theorem refGet_any (A : Option Addr) (c : Nat) (l : List UInt8) (w : World) (D : Nat) (hr : RdB w D A l) (hl : l.length ≤ 8) :
    Calls Try.prog 69 #[.slice A l.length c] w fun e w' => e = .returned (.int .u64 (get l : Int)) ∧ w = w' := by
  go_enter Try.func69, Try.ntmps69
  go_wp2
  go_loop [3, 4] (fun n i => ∃ k : Nat, k ≤ l.length ∧ i = .int .i64 k ∧ n = .int .u64 (get (l.take k) : Int)) (fun _ i => l.length - (intOf i).toNat)
  case atStart => exact ⟨0, Nat.zero_le _, rfl, rfl⟩
  case round =>
    obtain ⟨k, hk, rfl, rfl⟩ := hrel
    by_cases hlt : k < l.length
    · obtain ⟨b, off, rfl, hb, hc⟩ := hr.at_ (k := k) (by simpa using hlt)
      simp only [List.getElem_map, B] at hc
      go_wp2
      go_round
      case rel => exact ⟨k + 1, by omega, by go_num, by rw [get_add _ _ (get_take_lt l k hlt hl), get_take_snoc l k hlt]⟩
      case measure => simp [intOf]; omega
    · obtain rfl : k = l.length := by omega
      rw [List.take_length]
      go_wp2
      go_ret
      exact ⟨rfl, rfl⟩

theorem numPut4 (n : Nat) (w : World) (base : Nat) (hn : n < 18446744073709551616) (hb : base ≤ w.heap.size) :
    Calls Try.prog 53 #[.int .u64 (n : Int), .int .i64 4] w fun e w' => ∃ v, e = .returned v ∧ OwnB w' base v (put n 4) ∧ Below w.heap.size w w' := numPut_any n 4 w base (by omega) hn hb

theorem numPut8 (n : Nat) (w : World) (base : Nat) (hn : n < 18446744073709551616) (hb : base ≤ w.heap.size) :
    Calls Try.prog 53 #[.int .u64 (n : Int), .int .i64 8] w fun e w' => ∃ v, e = .returned v ∧ OwnB w' base v (put n 8) ∧ Below w.heap.size w w' := numPut_any n 8 w base (by omega) hn hb

theorem refPut4 (n : Nat) (w : World) (base : Nat) (hn : n < 18446744073709551616) (hb : base ≤ w.heap.size) :
    Calls Try.prog 54 #[.int .u64 (n : Int), .int .i64 4] w fun e w' => ∃ v, e = .returned v ∧ OwnB w' base v (put n 4) ∧ Below w.heap.size w w' := refPut_any n 4 w base (by omega) hn hb

theorem refPut8 (n : Nat) (w : World) (base : Nat) (hn : n < 18446744073709551616) (hb : base ≤ w.heap.size) :
    Calls Try.prog 54 #[.int .u64 (n : Int), .int .i64 8] w fun e w' => ∃ v, e = .returned v ∧ OwnB w' base v (put n 8) ∧ Below w.heap.size w w' := refPut_any n 8 w base (by omega) hn hb

theorem numGetN (A : Option Addr) (c n : Nat) (l : List UInt8) (w : World) (D : Nat) (hr : RdB w D A l) (hn : l.length = n) (hl : n ≤ 8) :
    Calls Try.prog 56 #[.slice A n c] w fun e w' => e = .returned (.int .u64 (get l : Int)) ∧ w = w' := by
  subst hn
  exact numGet_any A c l w D hr hl

theorem refGetN (A : Option Addr) (c n : Nat) (l : List UInt8) (w : World) (D : Nat) (hr : RdB w D A l) (hn : l.length = n) (hl : n ≤ 8) :
    Calls Try.prog 69 #[.slice A n c] w fun e w' => e = .returned (.int .u64 (get l : Int)) ∧ w = w' := by
  subst hn
  exact refGet_any A c l w D hr hl

end Go.Proofs.Ytehhgfkbcjbciaa
