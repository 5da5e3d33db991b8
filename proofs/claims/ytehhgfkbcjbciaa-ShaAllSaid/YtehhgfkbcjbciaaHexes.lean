/- sha.Hex; strings.IndexByte over the digits; sha.Unhex of "0aff". -/
import Derived.Test.YtehhgfkbcjbciaaStrs
import Derived.Test.YtehhgfkbcjbciaaMid
import Derived.Test.YtehhgfkbcjbciaaNum
import Derived.Test.YtehhgfkbcjbciaaPlan
import Derived.Lib.Bytealg
namespace Go.Proofs.Ytehhgfkbcjbciaa
open Go.RowKit

/-- the digits -/
def digs : ByteArray := ⟨#[48, 49, 50, 51, 52, 53, 54, 55, 56, 57, 97, 98, 99, 100, 101, 102]⟩

/-- a digit -/
def dig (k : Nat) : UInt8 := digs.data.toList.getD k 0

/-- bytes as digits -/
def hexL (l : List UInt8) : List UInt8 := l.flatMap fun c => [dig (c.toNat / 16), dig (c.toNat % 16)]

theorem hexL_snoc (l : List UInt8) (c : UInt8) : hexL (l ++ [c]) = hexL l ++ [dig (c.toNat / 16), dig (c.toNat % 16)] := by simp [hexL]

theorem hexL_len (l : List UInt8) : (hexL l).length = 2 * l.length := by
  induction l with
  | nil => rfl
  | cons c l ih => simp [hexL] at ih ⊢; omega

theorem and15 (c : UInt8) : bits .and .u8 (c.toNat : Int) 15 = (c.toNat : Int) % 16 := by
  have h : ∀ n : Fin 256, bits .and .u8 ((n.val : Nat) : Int) 15 = ((n.val : Nat) : Int) % 16 := by decide +kernel
  exact h ⟨c.toNat, c.toNat_lt⟩

theorem dig_at (K : Int) (k : Nat) (hk : k < 16) (hK : K = (k : Int)) : ∀ h : K.toNat < (ByteArray.mk #[48, 49, 50, 51, 52, 53, 54, 55, 56, 57, 97, 98, 99, 100, 101, 102]).size, (ByteArray.mk #[48, 49, 50, 51, 52, 53, 54, 55, 56, 57, 97, 98, 99, 100, 101, 102])[K.toNat]'h = dig k := by
  subst hK
  have h : ∀ n : Fin 16, ∀ h : ((n.val : Int)).toNat < digs.size, digs[((n.val : Int)).toNat]'h = dig n.val := by decide +kernel
  exact h ⟨k, hk⟩

set_option maxRecDepth 100000 in
set_option maxHeartbeats 1000000 in
theorem hex_any (A : Option Addr) (n c D : Nat) (l : List UInt8) (w : World) (hn : n = l.length) (hr : RdB w D A l) (hD : D ≤ w.heap.size) (hl : (l.length : Int) ≤ 1000) :
    Calls Try.prog 59 #[.slice A n c] w fun e w' => e = .returned (.string ⟨(hexL l).toArray⟩) ∧ Below w.heap.size w w' := by
  subst hn
  go_enter Try.func59, Try.ntmps59
  go_wp2_with fail
  go_loopw [3, 8] (fun v i wr => ∃ k : Nat, k ≤ l.length ∧ i = .int .i64 k ∧ OwnB wr w.heap.size v (hexL (l.take k)) ∧ Below w.heap.size w wr) (fun _ i _ => l.length - (intOf i).toNat)
  case atStart => exact ⟨0, by omega, rfl, OwnB.nil _ _, Below.refl _ _⟩
  case round =>
    obtain ⟨k, hk, rfl, own, bel⟩ := hrel
    have hsz := bel.size
    by_cases hlt : k < l.length
    · obtain ⟨b, off, rfl, hb, hc⟩ := (hr.below (bel.mono hD)).at_ (k := k) (by simpa using hlt)
      simp only [List.getElem_map, B] at hc
      have htk : l.take (k + 1) = l.take k ++ [l[k]] := List.take_succ_eq_append_getElem hlt
      generalize l[k] = x at hc htk
      have hx := x.toNat_lt
      have i1 := dig_at ((x.toNat : Int) / 16) (x.toNat / 16) (by omega) (by omega)
      have i2 := dig_at ((x.toNat : Int) % 16) (x.toNat % 16) (by omega) (by omega)
      have p1 : (0 : Int) ≤ (x.toNat : Int) / 16 := by omega
      have p2 : (x.toNat : Int) / 16 < 16 := by omega
      have p3 : (0 : Int) ≤ (x.toNat : Int) % 16 := by omega
      have p4 : (x.toNat : Int) % 16 < 16 := by omega
      have ha := and15 x
      have hb := hexL_snoc (l.take k) x
      rw [← htk] at hb
      have hl2 : (hexL (l.take k)).length + 2 ≤ 140737488355328 := by rw [hexL_len, List.length_take]; omega
      generalize dig (x.toNat % 16) = d2 at i2 hb
      generalize dig (x.toNat / 16) = d1 at i1 hb
      generalize hexL (l.take k) = X at hb own hl2
      have HB := Lib.hid hb
      have HL2 := Lib.hid hl2
      have OWN := Lib.hid own
      have BEL := Lib.hid bel
      clear hb hl2 own bel htk
      go_wp2_with fail
      refine any_begin (fun _ => True) (by kernel_rfl) trivial (fun hS0 => ?_)
      refine any_take 0 (v := ?_) rfl rfl (by kernel_rfl) (by kernel_rfl) (by kernel_rfl) (fun _ _ _ h => h) hS0 ?_ ?_
      rotate_left
      · (intro w' hSw; (try dsimp only at hSw); go_simp; first | done | with_reducible rfl)
      try simp only [Act.put, List.setIfInBounds_toArray, List.set_cons_zero, List.set_cons_succ]
      refine any_take 1 (v := ?_) rfl rfl (by kernel_rfl) (by kernel_rfl) (by kernel_rfl) (fun _ _ _ h => h) hS0 ?_ ?_
      rotate_left
      · (intro w' hSw; (try dsimp only at hSw); go_simp; first | done | with_reducible rfl)
      try simp only [Act.put, List.setIfInBounds_toArray, List.set_cons_zero, List.set_cons_succ]
      refine any_take 2 (v := ?_) rfl rfl (by kernel_rfl) (by kernel_rfl) (by kernel_rfl) (fun _ _ _ h => h) hS0 ?_ ?_
      rotate_left
      · (intro w' hSw; (try dsimp only at hSw); go_simp; first | done | with_reducible rfl)
      try simp only [Act.put, List.setIfInBounds_toArray, List.set_cons_zero, List.set_cons_succ]
      refine any_take 3 (v := ?_) rfl rfl (by kernel_rfl) (by kernel_rfl) (by kernel_rfl) (fun _ _ _ h => h) hS0 ?_ ?_
      rotate_left
      · (intro w' hSw; (try dsimp only at hSw); go_simp; first | done | with_reducible rfl)
      try simp only [Act.put, List.setIfInBounds_toArray, List.set_cons_zero, List.set_cons_succ]
      refine any_take 4 (v := ?_) rfl rfl (by kernel_rfl) (by kernel_rfl) (by kernel_rfl) (fun _ _ _ h => h) hS0 ?_ ?_
      rotate_left
      · (intro w' hSw; (try dsimp only at hSw); go_simp; first | done | with_reducible rfl)
      try simp only [Act.put, List.setIfInBounds_toArray, List.set_cons_zero, List.set_cons_succ]
      refine any_take 5 (v := ?_) rfl rfl (by kernel_rfl) (by kernel_rfl) (by kernel_rfl) (fun _ _ _ h => h) hS0 ?_ ?_
      rotate_left
      · (intro w' hSw; (try dsimp only at hSw); go_simp; first | done | with_reducible rfl)
      try simp only [Act.put, List.setIfInBounds_toArray, List.set_cons_zero, List.set_cons_succ]
      refine any_take 6 (v := ?_) rfl rfl (by kernel_rfl) (by kernel_rfl) (by kernel_rfl) (fun _ _ _ h => h) hS0 ?_ ?_
      rotate_left
      · (intro w' hSw; (try dsimp only at hSw); go_simp; first | done | with_reducible rfl)
      try simp only [Act.put, List.setIfInBounds_toArray, List.set_cons_zero, List.set_cons_succ]
      refine any_one 7 (by kernel_rfl) rfl rfl (fun K1 hK1 => ?_)
      go_simp
      have rd2 : RdB (wr.drew.alloc (.cells #[.int .u8 (d1.toNat : Int), .int .u8 (d2.toNat : Int)] 5)) (wr.heap.size + 1) (some ⟨wr.heap.size, 0, none⟩) [d1, d2] := Rd.new wr.drew _ _ _
      have own2 : OwnB (wr.drew.alloc (.cells #[.int .u8 (d1.toNat : Int), .int .u8 (d2.toNat : Int)] 5)) w.heap.size u3 X := OwnB.alloc (w := wr.drew) OWN.out _
      have bel2 : Below w.heap.size w (wr.drew.alloc (.cells #[.int .u8 (d1.toNat : Int), .int .u8 (d2.toNat : Int)] 5)) := BEL.out.drew.alloc hsz _
      have hlt3 := own2.lt
      refine hK1 _ _ trivial (fun hS1 => ?_)
      clear hK1 K1
      try simp only [Act.put, List.setIfInBounds_toArray, List.set_cons_zero, List.set_cons_succ]
      refine any_one 8 (by kernel_rfl) rfl rfl (fun K2 hK2 => ?_)
      refine wp_append_u8 _ _ rfl w.heap.size u3 X rfl own2 (wr.heap.size + 1) (some ⟨wr.heap.size, 0, none⟩) 2 2 [d1, d2] rfl rfl rd2 HL2.out bel2.size (fun v3 w3 own3 g3 => ?_)
      have bel3 := bel2.grown g3 bel2.size (fun k hk => (hlt3 k hk).1)
      have OWN3 := Lib.hid own3
      refine hK2 _ _ trivial (fun hS2 => ?_)
      clear hK2 K2
      try simp only [Act.put, List.setIfInBounds_toArray, List.set_cons_zero, List.set_cons_succ]
      refine any_take 9 (v := ?_) rfl rfl (by kernel_rfl) (by kernel_rfl) (by kernel_rfl) (fun _ _ _ h => h) hS2 ?_ ?_
      rotate_left
      · (intro w' hSw; (try dsimp only at hSw); go_simp; first | done | with_reducible rfl)
      try simp only [Act.put, List.setIfInBounds_toArray, List.set_cons_zero, List.set_cons_succ]
      refine any_done (by kernel_rfl) (NoPanic.normal ?_)
      go_wp2_with fail
      refine ⟨⟨k + 1, by omega, by simp, by rw [HB.out]; exact OWN3.out, bel3⟩, by simp [intOf]; omega⟩
    · obtain rfl : k = l.length := by omega
      rw [List.take_length] at own
      obtain ⟨A2, n2, c2, rfl, hn2, h1, h2, r2⟩ := own.slice'
      have ks := run_str_of wr wr.heap.size A2 c2 n2 (hexL l) hn2.out.symm r2
      clear own r2 h1 h2
      go_wp2_with fail
      go_ret
      exact ⟨rfl, bel⟩

theorem idx_any (s : ByteArray) (c : Int) (w : World) : Calls Try.prog 76 #[.string s, .int .u8 c] w fun e w' => e = .returned (.int .i64 (Lib.indexByte s.data.toList c.toNat.toUInt8)) ∧ w = w' := by
  go_enter Try.func76, Try.ntmps76
  go_wp2
  rw [run_callFunc_extern Try.func80 (by kernel_rfl) (by kernel_rfl) (by kernel_rfl) (e := Extern.BytealgIndexByte.indexByte) (by kernel_rfl), Lib.run_indexByteString]
  simp only [Result.andThen]
  rw [Oper.upon_value]
  go_wp2
  go_ret
  exact ⟨rfl, rfl⟩

theorem sidx_any (s : ByteArray) (c : Int) (w : World) : Calls Try.prog 70 #[.string s, .int .u8 c] w fun e w' => e = .returned (.int .i64 (Lib.indexByte s.data.toList c.toNat.toUInt8)) ∧ w = w' := by
  go_enter Try.func70, Try.ntmps70
  go_wp2_with fail
  refine (idx_any s c w).mono ?_
  rintro e w' ⟨rfl, rfl⟩
  go_wp2_with fail
  go_ret
  exact ⟨rfl, rfl⟩

theorem sidx48 (w : World) : Calls Try.prog 70 #[.string ⟨#[48, 49, 50, 51, 52, 53, 54, 55, 56, 57, 97, 98, 99, 100, 101, 102]⟩, .int .u8 48] w fun e w' => e = .returned (.int .i64 0) ∧ w = w' := sidx_any _ 48 w
theorem sidx97 (w : World) : Calls Try.prog 70 #[.string ⟨#[48, 49, 50, 51, 52, 53, 54, 55, 56, 57, 97, 98, 99, 100, 101, 102]⟩, .int .u8 97] w fun e w' => e = .returned (.int .i64 10) ∧ w = w' := sidx_any _ 97 w
theorem sidx102 (w : World) : Calls Try.prog 70 #[.string ⟨#[48, 49, 50, 51, 52, 53, 54, 55, 56, 57, 97, 98, 99, 100, 101, 102]⟩, .int .u8 102] w fun e w' => e = .returned (.int .i64 15) ∧ w = w' := sidx_any _ 102 w

set_option maxRecDepth 100000 in
set_option maxHeartbeats 1000000 in
theorem unhex_one (w : World) : Calls Try.prog 58 #[.string ⟨#[48, 97, 102, 102]⟩] w fun e w' => ∃ A c, e = .returned (.tuple #[.slice A 2 c, .bool true]) ∧ RdB w' w'.heap.size A [10, 255] ∧ Below w.heap.size w w' := by
  go_enter Try.func58, Try.ntmps58
  go_wp2_with fail
  go_loopw [4, 5] (fun v i wr => ∃ k : Nat, k ≤ 2 ∧ i = .int .i64 (2 * (k : Int)) ∧ OwnB wr w.heap.size v (([10, 255] : List UInt8).take k) ∧ Below w.heap.size w wr) (fun _ i _ => 4 - (intOf i).toNat)
  case atStart => exact ⟨0, by omega, rfl, OwnB.nil _ _, Below.refl _ _⟩
  case round =>
    obtain ⟨k, hk, rfl, own, bel⟩ := hrel
    have hsz := bel.size
    obtain rfl | rfl | rfl : k = 0 ∨ k = 1 ∨ k = 2 := by omega
    · rw [show (2 * ((0 : Nat) : Int)) = 0 from rfl]
      have hw := (by decide : IntKind.i64.wrap 1 = 1)
      go_wp2_with fail
      refine any_begin (fun _ => True) (by kernel_rfl) trivial (fun hS0 => ?_)
      refine any_take 0 (v := ?_) rfl rfl (by kernel_rfl) (by kernel_rfl) (by kernel_rfl) (fun _ _ _ h => h) hS0 ?_ ?_
      rotate_left
      · (intro w' hSw; (try dsimp only at hSw); go_simp; first | done | with_reducible rfl)
      try simp only [Act.put, List.setIfInBounds_toArray, List.set_cons_zero, List.set_cons_succ]
      refine any_take 1 (v := ?_) rfl rfl (by kernel_rfl) (by kernel_rfl) (by kernel_rfl) (fun _ _ _ h => h) hS0 ?_ ?_
      rotate_left
      · (intro w' hSw; (try dsimp only at hSw); go_simp; first | done | with_reducible rfl)
      try simp only [Act.put, List.setIfInBounds_toArray, List.set_cons_zero, List.set_cons_succ]
      refine any_take 2 (v := ?_) rfl rfl (by kernel_rfl) (by kernel_rfl) (by kernel_rfl) (fun _ _ _ h => h) hS0 ?_ ?_
      rotate_left
      · (intro w' hSw; (try dsimp only at hSw); go_simp; first | done | with_reducible rfl)
      try simp only [Act.put, List.setIfInBounds_toArray, List.set_cons_zero, List.set_cons_succ]
      refine any_call 3 (v := ?_) (f := ?_) (args := ?_) rfl rfl (by kernel_rfl) (by kernel_rfl) (by kernel_rfl) (fun _ _ _ h => h) hS0 ?_ ?_ ?_
      rotate_left 3
      · (intro w' hSw; (try dsimp only at hSw); go_simp; first | done | (constructor <;> with_reducible rfl) | with_reducible rfl)
      · (intro w' hw; exact sidx48 w')
      try simp only [Act.put, List.setIfInBounds_toArray, List.set_cons_zero, List.set_cons_succ]
      refine any_take 4 (v := ?_) rfl rfl (by kernel_rfl) (by kernel_rfl) (by kernel_rfl) (fun _ _ _ h => h) hS0 ?_ ?_
      rotate_left
      · (intro w' hSw; (try dsimp only at hSw); go_simp; first | done | with_reducible rfl)
      try simp only [Act.put, List.setIfInBounds_toArray, List.set_cons_zero, List.set_cons_succ]
      refine any_take 5 (v := ?_) rfl rfl (by kernel_rfl) (by kernel_rfl) (by kernel_rfl) (fun _ _ _ h => h) hS0 ?_ ?_
      rotate_left
      · (intro w' hSw; (try dsimp only at hSw); go_simp; first | done | with_reducible rfl)
      try simp only [Act.put, List.setIfInBounds_toArray, List.set_cons_zero, List.set_cons_succ]
      refine any_take 6 (v := ?_) rfl rfl (by kernel_rfl) (by kernel_rfl) (by kernel_rfl) (fun _ _ _ h => h) hS0 ?_ ?_
      rotate_left
      · (intro w' hSw; (try dsimp only at hSw); go_simp; first | done | with_reducible rfl)
      try simp only [Act.put, List.setIfInBounds_toArray, List.set_cons_zero, List.set_cons_succ]
      refine any_take 7 (v := ?_) rfl rfl (by kernel_rfl) (by kernel_rfl) (by kernel_rfl) (fun _ _ _ h => h) hS0 ?_ ?_
      rotate_left
      · (intro w' hSw; (try dsimp only at hSw); go_simp; first | done | with_reducible rfl)
      try simp only [Act.put, List.setIfInBounds_toArray, List.set_cons_zero, List.set_cons_succ]
      refine any_call 8 (v := ?_) (f := ?_) (args := ?_) rfl rfl (by kernel_rfl) (by kernel_rfl) (by kernel_rfl) (fun _ _ _ h => h) hS0 ?_ ?_ ?_
      rotate_left 3
      · (intro w' hSw; (try dsimp only at hSw); go_simp; first | done | (constructor <;> with_reducible rfl) | with_reducible rfl)
      · (intro w' hw; exact sidx97 w')
      try simp only [Act.put, List.setIfInBounds_toArray, List.set_cons_zero, List.set_cons_succ]
      refine any_take 9 (v := ?_) rfl rfl (by kernel_rfl) (by kernel_rfl) (by kernel_rfl) (fun _ _ _ h => h) hS0 ?_ ?_
      rotate_left
      · (intro w' hSw; (try dsimp only at hSw); go_simp; first | done | with_reducible rfl)
      try simp only [Act.put, List.setIfInBounds_toArray, List.set_cons_zero, List.set_cons_succ]
      refine any_take 10 (v := ?_) rfl rfl (by kernel_rfl) (by kernel_rfl) (by kernel_rfl) (fun _ _ _ h => h) hS0 ?_ ?_
      rotate_left
      · (intro w' hSw; (try dsimp only at hSw); go_simp; first | done | with_reducible rfl)
      try simp only [Act.put, List.setIfInBounds_toArray, List.set_cons_zero, List.set_cons_succ]
      refine any_done (by kernel_rfl) (NoPanic.normal ?_)
      go_wp2_with (at_builtin; refine wpList_append_u8 rfl (.tmp 33) (.tmp 39) rfl w.heap.size u4 [] rfl (OwnB.alloc (w := wr.drew) own _) (wr.heap.size + 1) (some ⟨wr.heap.size, 0, none⟩) 1 1 [10] rfl rfl (Rd.new wr.drew _ _ _) (by simp) (by simp; omega) ?_; intro v2 w2 own2 g2; replace own2 := Lib.hid own2; replace g2 := Lib.hid g2)
      exact ⟨⟨1, by omega, rfl, own2.out, (Below.alloc bel.drew hsz _).grown g2.out (by simp; omega) (fun k hk => (World.ownsRow.lt own k hk).1)⟩, by simp [intOf]⟩
    · rw [show (2 * ((1 : Nat) : Int)) = 2 from rfl]
      have hw := (by decide : IntKind.i64.wrap 3 = 3)
      go_wp2_with fail
      refine any_begin (fun _ => True) (by kernel_rfl) trivial (fun hS0 => ?_)
      refine any_take 0 (v := ?_) rfl rfl (by kernel_rfl) (by kernel_rfl) (by kernel_rfl) (fun _ _ _ h => h) hS0 ?_ ?_
      rotate_left
      · (intro w' hSw; (try dsimp only at hSw); go_simp; first | done | with_reducible rfl)
      try simp only [Act.put, List.setIfInBounds_toArray, List.set_cons_zero, List.set_cons_succ]
      refine any_take 1 (v := ?_) rfl rfl (by kernel_rfl) (by kernel_rfl) (by kernel_rfl) (fun _ _ _ h => h) hS0 ?_ ?_
      rotate_left
      · (intro w' hSw; (try dsimp only at hSw); go_simp; first | done | with_reducible rfl)
      try simp only [Act.put, List.setIfInBounds_toArray, List.set_cons_zero, List.set_cons_succ]
      refine any_take 2 (v := ?_) rfl rfl (by kernel_rfl) (by kernel_rfl) (by kernel_rfl) (fun _ _ _ h => h) hS0 ?_ ?_
      rotate_left
      · (intro w' hSw; (try dsimp only at hSw); go_simp; first | done | with_reducible rfl)
      try simp only [Act.put, List.setIfInBounds_toArray, List.set_cons_zero, List.set_cons_succ]
      refine any_call 3 (v := ?_) (f := ?_) (args := ?_) rfl rfl (by kernel_rfl) (by kernel_rfl) (by kernel_rfl) (fun _ _ _ h => h) hS0 ?_ ?_ ?_
      rotate_left 3
      · (intro w' hSw; (try dsimp only at hSw); go_simp; first | done | (constructor <;> with_reducible rfl) | with_reducible rfl)
      · (intro w' hw; exact sidx102 w')
      try simp only [Act.put, List.setIfInBounds_toArray, List.set_cons_zero, List.set_cons_succ]
      refine any_take 4 (v := ?_) rfl rfl (by kernel_rfl) (by kernel_rfl) (by kernel_rfl) (fun _ _ _ h => h) hS0 ?_ ?_
      rotate_left
      · (intro w' hSw; (try dsimp only at hSw); go_simp; first | done | with_reducible rfl)
      try simp only [Act.put, List.setIfInBounds_toArray, List.set_cons_zero, List.set_cons_succ]
      refine any_take 5 (v := ?_) rfl rfl (by kernel_rfl) (by kernel_rfl) (by kernel_rfl) (fun _ _ _ h => h) hS0 ?_ ?_
      rotate_left
      · (intro w' hSw; (try dsimp only at hSw); go_simp; first | done | with_reducible rfl)
      try simp only [Act.put, List.setIfInBounds_toArray, List.set_cons_zero, List.set_cons_succ]
      refine any_take 6 (v := ?_) rfl rfl (by kernel_rfl) (by kernel_rfl) (by kernel_rfl) (fun _ _ _ h => h) hS0 ?_ ?_
      rotate_left
      · (intro w' hSw; (try dsimp only at hSw); go_simp; first | done | with_reducible rfl)
      try simp only [Act.put, List.setIfInBounds_toArray, List.set_cons_zero, List.set_cons_succ]
      refine any_take 7 (v := ?_) rfl rfl (by kernel_rfl) (by kernel_rfl) (by kernel_rfl) (fun _ _ _ h => h) hS0 ?_ ?_
      rotate_left
      · (intro w' hSw; (try dsimp only at hSw); go_simp; first | done | with_reducible rfl)
      try simp only [Act.put, List.setIfInBounds_toArray, List.set_cons_zero, List.set_cons_succ]
      refine any_call 8 (v := ?_) (f := ?_) (args := ?_) rfl rfl (by kernel_rfl) (by kernel_rfl) (by kernel_rfl) (fun _ _ _ h => h) hS0 ?_ ?_ ?_
      rotate_left 3
      · (intro w' hSw; (try dsimp only at hSw); go_simp; first | done | (constructor <;> with_reducible rfl) | with_reducible rfl)
      · (intro w' hw; exact sidx102 w')
      try simp only [Act.put, List.setIfInBounds_toArray, List.set_cons_zero, List.set_cons_succ]
      refine any_take 9 (v := ?_) rfl rfl (by kernel_rfl) (by kernel_rfl) (by kernel_rfl) (fun _ _ _ h => h) hS0 ?_ ?_
      rotate_left
      · (intro w' hSw; (try dsimp only at hSw); go_simp; first | done | with_reducible rfl)
      try simp only [Act.put, List.setIfInBounds_toArray, List.set_cons_zero, List.set_cons_succ]
      refine any_take 10 (v := ?_) rfl rfl (by kernel_rfl) (by kernel_rfl) (by kernel_rfl) (fun _ _ _ h => h) hS0 ?_ ?_
      rotate_left
      · (intro w' hSw; (try dsimp only at hSw); go_simp; first | done | with_reducible rfl)
      try simp only [Act.put, List.setIfInBounds_toArray, List.set_cons_zero, List.set_cons_succ]
      refine any_done (by kernel_rfl) (NoPanic.normal ?_)
      go_wp2_with (at_builtin; refine wpList_append_u8 rfl (.tmp 33) (.tmp 39) rfl w.heap.size u4 [10] rfl (OwnB.alloc (w := wr.drew) own _) (wr.heap.size + 1) (some ⟨wr.heap.size, 0, none⟩) 1 1 [255] rfl rfl (Rd.new wr.drew _ _ _) (by simp) (by simp; omega) ?_; intro v2 w2 own2 g2; replace own2 := Lib.hid own2; replace g2 := Lib.hid g2)
      exact ⟨⟨2, by omega, rfl, own2.out, (Below.alloc bel.drew hsz _).grown g2.out (by simp; omega) (fun k hk => (World.ownsRow.lt own k hk).1)⟩, by simp [intOf]⟩
    · rw [show (2 * ((2 : Nat) : Int)) = 4 from rfl]
      obtain ⟨A2, c2, rfl, h1, h2, r2, _⟩ := OwnB.slice (l := [10, 255]) own
      clear own
      go_wp2_with fail
      go_ret2
      exact ⟨A2, c2, rfl, r2, bel⟩

end Go.Proofs.Ytehhgfkbcjbciaa
