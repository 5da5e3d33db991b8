/- stillroomref1.digits, times. -/
import Derived.Test.YtehhgfkbcjbciaaInts
import Derived.Test.YtehhgfkbcjbciaaPlan
import Derived.Test.YtehhgfkbcjbciaaRootPlain
namespace Go.Proofs.Ytehhgfkbcjbciaa
open Go.RowKit

/-- digits of a number -/
def DigitsOf (w : World) (n m : Nat) (e : Ending) (w' : World) : Prop :=
  ∃ v L, e = .returned v ∧ OwnI .u64 33 w' w.heap.size v L ∧ Fine L ∧ val L = n ∧ L.length ≤ m ∧ Below w.heap.size w w'

theorem digit_room (L : List Nat) (cur n : Nat) (h : val L + 65536 ^ L.length * cur = n) (hc : 0 < cur) (hn : n < 18446744073709551616) : L.length < 4 := by
  have h1 : 65536 ^ L.length * 1 ≤ 65536 ^ L.length * cur := Nat.mul_le_mul_left _ hc
  have h2 : 65536 ^ L.length < 65536 ^ 4 := by
    have : (65536 : Nat) ^ 4 = 18446744073709551616 := by decide
    omega
  exact (Nat.pow_lt_pow_iff_right (by omega : 1 < 65536)).1 h2

theorem digit_next (L : List Nat) (cur n : Nat) (h : val L + 65536 ^ L.length * cur = n) : val (L ++ [cur % 65536]) + 65536 ^ (L ++ [cur % 65536]).length * (cur / 65536) = n := by
  rw [val_append, List.length_append, List.length_singleton, Nat.pow_succ]
  have e : 65536 ^ L.length * cur = 65536 ^ L.length * (65536 * (cur / 65536)) + 65536 ^ L.length * (cur % 65536) := by rw [← Nat.mul_add, Nat.div_add_mod]
  have e2 : 65536 ^ L.length * 65536 * (cur / 65536) = 65536 ^ L.length * (65536 * (cur / 65536)) := by rw [Nat.mul_assoc]
  simp only [val, Nat.mul_zero, Nat.add_zero]
  omega

theorem digit_le (L : List Nat) (cur n : Nat) (h : val L + 65536 ^ L.length * cur = n) : cur ≤ n := by
  have h1 : 1 * cur ≤ 65536 ^ L.length * cur := Nat.mul_le_mul_right _ (Nat.pow_pos (by omega))
  omega

set_option maxRecDepth 100000 in
set_option maxHeartbeats 1000000 in
theorem digits_any (n : Nat) (w : World) (hn : n < 18446744073709551616) :
    Calls Try.prog 77 #[.int .u64 (n : Int)] w (DigitsOf w n 4) := by
  have HN := Lib.hid hn
  clear hn
  go_enter Try.func77, Try.ntmps77
  go_wp2_with fail
  go_loopw [0, 3] (fun nv v wr => ∃ (cur : Nat) (L : List Nat), nv = .int .u64 cur ∧ OwnI .u64 33 wr w.heap.size v L ∧ Hid (Fine L ∧ val L + 65536 ^ L.length * cur = n ∧ L.length ≤ 4) ∧ Below w.heap.size w wr) (fun nv _ _ => (intOf nv).toNat)
  case atStart => exact ⟨n, [], rfl, OwnI.nil _ _, Lib.hid ⟨Fine.nil, by simp [val], by simp⟩, Below.refl _ _⟩
  case round =>
    obtain ⟨cur, L, rfl, own, hinv, bel⟩ := hrel
    have hsz := bel.size
    by_cases hc : 0 < cur
    · have hcI : (0 : Int) < (cur : Int) := by omega
      have hroom := digit_room L cur n hinv.out.2.1 hc HN.out
      have hlen : L.length + 1 ≤ 1000000 := by omega
      have hnx := digit_next L cur n hinv.out.2.1
      obtain ⟨d, hd⟩ : ∃ d, d = cur % 65536 := ⟨_, rfl⟩
      obtain ⟨q, hq⟩ : ∃ q, q = cur / 65536 := ⟨_, rfl⟩
      rw [← hd, ← hq] at hnx
      have hd2 : d < 65536 := by omega
      have hq2 : q < cur := by omega
      have m1 : (cur : Int) % 65536 = (d : Int) := by omega
      have m2 : (cur : Int) / 65536 = (q : Int) := by omega
      have m3 : IntKind.u64.wrap (q : Int) = (q : Int) := by
        have h1 := digit_le L cur n hinv.out.2.1
        have h2 := HN.out
        rw [IntKind.wrap_u64]
        omega
      have HINV : Hid (Fine (L ++ [d]) ∧ val (L ++ [d]) + 65536 ^ (L ++ [d]).length * q = n ∧ (L ++ [d]).length ≤ 4) := Lib.hid ⟨hinv.out.1.append (Fine.one hd2), hnx, by simp; omega⟩
      have OWN := Lib.hid own
      have BEL := Lib.hid bel
      have HLEN := Lib.hid hlen
      have HQ := Lib.hid hq2
      clear hnx hd hq hd2 hq2 own bel hinv hroom hlen
      go_wp2_with (at_builtin; refine wpList_append_int numU rfl (.tmp 6) (.tmp 9) rfl w.heap.size _ L rfl (OWN.out.alloc _) (wr.heap.size + 1) (some ⟨wr.heap.size, 0, none⟩) 1 1 [d] rfl rfl (Rd.new wr _ _ _) HLEN.out (by simp; omega) ?_; intro v2 w2 own2 g2 _; replace own2 := Lib.hid own2; replace g2 := Lib.hid g2)
      refine ⟨⟨q, L ++ [d], rfl, own2.out, HINV, (BEL.out.alloc hsz _).grown g2.out (by simp; omega) (fun k hk => (OwnI.lt OWN.out k hk).1)⟩, by have := HQ.out; simp [intOf]; omega⟩
    · obtain rfl : cur = 0 := by omega
      have h := hinv.out
      go_wp2_with fail
      go_ret
      exact ⟨_, L, rfl, own, hinv.out.1, by have := hinv.out.2.1; simpa using this, hinv.out.2.2, bel⟩

/-- a product's digits -/
def Product (w : World) (n m : Nat) (e : Ending) (w' : World) : Prop :=
  ∃ v L, e = .returned v ∧ OwnI .u64 33 w' w.heap.size v L ∧ Fine L ∧ val L = n ∧ L.length = m ∧ Below w.heap.size w w'

set_option maxRecDepth 100000 in
set_option maxHeartbeats 4000000 in
theorem times_any (A1 A2 : Option Addr) (n1 n2 c1 c2 D : Nat) (a b : List Nat) (w : World) (hn1 : n1 = a.length) (hn2 : n2 = b.length) (ra : RdI .u64 w D A1 a) (rb : RdI .u64 w D A2 b) (hD : D ≤ w.heap.size) (fa : Fine a) (fb : Fine b) (l1 : n1 ≤ 100) (l2 : n2 ≤ 100) :
    Calls Try.prog 78 #[.slice A1 n1 c1, .slice A2 n2 c2] w (Product w (val a * val b) (n1 + n2 + 1)) := by
  have HA := Lib.hid hn1
  have HB := Lib.hid hn2
  have RA := Lib.hid ra
  have RB := Lib.hid rb
  have FA := Lib.hid fa
  have FB := Lib.hid fb
  clear hn1 hn2 ra rb fa fb
  obtain ⟨N, hN⟩ : ∃ N, N = n1 + n2 + 1 := ⟨_, rfl⟩
  have hNI : (n1 : Int) + (n2 : Int) + 1 = (N : Int) := by omega
  have hN3 : N ≤ 201 := by omega
  rw [← hN]
  have HN := Lib.hid hN
  clear hN
  go_enter Try.func78, Try.ntmps78
  go_wp2_with (at_make; refine wpList_make_int numU rfl (.tmp 14) (.tmp 14) rfl w.heap.size _ _ N rfl rfl (by first | rfl | omega) (by first | rfl | omega) (by omega) (Nat.le_refl _) ?_; intro w1 own1 g1; replace own1 := Lib.hid own1; replace g1 := Lib.hid g1)
  have blk1 : Blk w1 w.heap.size 33 (ncells .u64 (List.replicate N 0)) := own1.out.blk
  have bel1 : Below w.heap.size w w1 := (Below.refl _ w).grown g1.out (Nat.le_refl _) (fun k hk => by cases hk)
  clear own1 g1 hNI
  go_loopw [6] (fun iv wr => ∃ (i : Nat) (L : List Nat), i ≤ n1 ∧ iv = .int .i64 i ∧ Blk wr w.heap.size 33 (ncells .u64 L) ∧ Hid (L.length = N ∧ Fine L ∧ val L = val (a.take i) * val b) ∧ Below w.heap.size w wr) (fun iv _ => n1 - (intOf iv).toNat)
  case atStart => exact ⟨0, _, by omega, rfl, blk1, Lib.hid ⟨by simp, fun t => by simp [List.getD_eq_getElem?_getD, List.getElem?_replicate]; split <;> simp, by rw [val_zeros]; simp [val]⟩, bel1⟩
  case round =>
    clear blk1 bel1
    obtain ⟨i, L, hi, rfl, blk, hinv, bel⟩ := hrel
    by_cases hlt : i < n1
    · obtain ⟨x, hx⟩ : ∃ x, x = a.getD i 0 := ⟨_, rfl⟩
      have hxs : x < 65536 := by rw [hx]; exact FA.out i
      have HX := Lib.hid hx
      have hia : i < a.length := by rw [← HA.out]; exact hlt
      obtain ⟨ba, oa, rfl, hba, hca⟩ := RA.out.at' hia
      rw [← hx] at hca
      clear hx
      go_wp2_with fail
      obtain ⟨wo, rfl⟩ : ∃ wo : World, wo = wr := ⟨_, rfl⟩
      go_loopw [7] (fun kv wr => ∃ (k : Nat) (L : List Nat), k ≤ n2 ∧ kv = .int .i64 k ∧ Blk wr w.heap.size 33 (ncells .u64 L) ∧ Hid (L.length = N ∧ Fine L ∧ val L = val (a.take i) * val b + 65536 ^ i * x * val (b.take k)) ∧ Below w.heap.size w wr) (fun kv _ => n2 - (intOf kv).toNat)
      case atStart => exact ⟨0, L, by omega, rfl, blk, Lib.hid ⟨hinv.out.1, hinv.out.2.1, by rw [hinv.out.2.2]; simp [val]⟩, bel⟩
      case round =>
        clear blk hinv bel
        obtain ⟨k, L, hk, rfl, blk, hinv, bel⟩ := hrel
        by_cases hlt2 : k < n2
        · obtain ⟨y, hy⟩ : ∃ y, y = b.getD k 0 := ⟨_, rfl⟩
          have hys : y < 65536 := by rw [hy]; exact FB.out k
          have hkb : k < b.length := by rw [← HB.out]; exact hlt2
          have hLN := hinv.out.1
          have hik : i + k < N := by have := HN.out; omega
          obtain ⟨bb, ob, rfl, hbb, hcb⟩ := (RB.out.below (bel.mono hD)).at' hkb
          rw [← hy] at hcb
          have hca2 : wr.cell? ⟨ba, oa + i, none⟩ = some (.int .u64 (x : Nat)) := (bel.cell (p := ⟨ba, oa + i, none⟩) (by show ba < _; omega)).trans hca
          have hl0 := hinv.out.2.1 (i + k)
          have cl := (blk.cell (i + k)).trans (ncells_at L (i + k) (by omega))
          have fl := blk.frozen (i + k)
          obtain ⟨l0, hl0e⟩ : ∃ l0, l0 = L.getD (i + k) 0 := ⟨_, rfl⟩
          rw [← hl0e] at cl hl0
          obtain ⟨z, hz⟩ : ∃ z, z = x * y := ⟨_, rfl⟩
          have hzs : z < 4294967296 := by rw [hz]; exact mul_small x y hxs hys
          obtain ⟨s, hs⟩ : ∃ s, s = l0 + z := ⟨_, rfl⟩
          have hmul : IntKind.u64.wrap ((x : Int) * (y : Int)) = (z : Int) := by
            rw [IntKind.wrap_u64]
            have e : ((x : Int) * (y : Int)) = (z : Int) := by rw [hz]; exact (Int.natCast_mul x y).symm
            rw [e]; omega
          have hadd : IntKind.u64.wrap ((l0 : Int) + (z : Int)) = (s : Int) := by rw [IntKind.wrap_u64]; omega
          have hcar := Carry.start hLN hinv.out.2.1 hinv.out.2.2 (i + k) z hik hzs
          rw [← hl0e, ← hs, hz, HX.out, hy, part_next a b i k hkb, ← HX.out] at hcar
          have hVlt := part_lt a b FA.out FB.out i k hia hkb
          rw [part_next a b i k hkb, ← HX.out, ← HA.out, ← HB.out] at hVlt
          obtain ⟨V, hV⟩ : ∃ V, V = val (a.take i) * val b + 65536 ^ i * x * val (b.take (k + 1)) := ⟨_, rfl⟩
          rw [← hV] at hcar hVlt
          have hN1 : N - 1 = n1 + n2 := by have := HN.out; omega
          rw [← hN1] at hVlt
          have e1 : IntKind.i64.wrap ((i : Int) + (k : Int)) = (i : Int) + (k : Int) := by rw [IntKind.wrap_i64]; omega
          have e2 : (0 : Int) ≤ (i : Int) + (k : Int) := by omega
          have e3 : (i : Int) + (k : Int) < (N : Int) := by omega
          have e4 : ((i : Int) + (k : Int)).toNat = i + k := by omega
          have q1 : (i : Int) < (n1 : Int) := by omega
          have q2 : (k : Int) < (n2 : Int) := by omega
          have CAR := Lib.hid hcar
          have VLT := Lib.hid hVlt
          have HV := Lib.hid hV
          have BLK := Lib.hid blk
          have BEL := Lib.hid bel
          have hbaw : ba < w.heap.size := by omega
          have hbbw : bb < w.heap.size := by omega
          clear hcar hVlt hV hs hz hl0e hl0 hLN hinv blk bel hy hN1 hys hzs
          go_wp2_with fail
          refine any_begin (fun w' => w'.cell? ⟨ba, oa + i, none⟩ = some (.int .u64 (x : Nat)) ∧ w'.cell? ⟨bb, ob + k, none⟩ = some (.int .u64 (y : Nat))) (by kernel_rfl) ⟨hca2, hcb⟩ (fun hS0 => ?_)
          refine any_take 0 (v := ?_) rfl rfl (by kernel_rfl) (by kernel_rfl) (by kernel_rfl) (fun _ _ _ h => h) hS0 ?_ ?_
          rotate_left
          · (intro w' hSw; (try dsimp only at hSw); go_simp; first | done | with_reducible rfl)
          try simp only [Act.put, List.setIfInBounds_toArray, List.set_cons_zero, List.set_cons_succ]
          refine any_take 1 (v := ?_) rfl rfl (by kernel_rfl) (by kernel_rfl) (by kernel_rfl) (fun _ _ _ h => h) hS0 ?_ ?_
          rotate_left
          · (intro w' hSw; (try dsimp only at hSw); go_simp; first | done | with_reducible rfl)
          try simp only [Act.put, List.setIfInBounds_toArray, List.set_cons_zero, List.set_cons_succ]
          refine any_take 2 (v := ?_) rfl rfl (by kernel_rfl) (by kernel_rfl) (by kernel_rfl) (fun _ _ _ h => h) hS0 ?_ ?_
          rotate_left
          · (intro w' hSw; (try dsimp only at hSw); go_simp; first | done | with_reducible rfl)
          try simp only [Act.put, List.setIfInBounds_toArray, List.set_cons_zero, List.set_cons_succ]
          refine any_take 3 (v := ?_) rfl rfl (by kernel_rfl) (by kernel_rfl) (by kernel_rfl) (fun _ _ _ h => h) hS0 ?_ ?_
          rotate_left
          · (intro w' hSw; (try dsimp only at hSw); go_simp; first | done | with_reducible rfl)
          try simp only [Act.put, List.setIfInBounds_toArray, List.set_cons_zero, List.set_cons_succ]
          refine any_take 4 (v := ?_) rfl rfl (by kernel_rfl) (by kernel_rfl) (by kernel_rfl) (fun _ _ _ h => h) hS0 ?_ ?_
          rotate_left
          · (intro w' hSw; (try dsimp only at hSw); go_simp; first | done | with_reducible rfl)
          try simp only [Act.put, List.setIfInBounds_toArray, List.set_cons_zero, List.set_cons_succ]
          refine any_take 6 (v := ?_) rfl rfl (by kernel_rfl) (by kernel_rfl) (by kernel_rfl) (fun _ _ _ h => h) hS0 ?_ ?_
          rotate_left
          · (intro w' hSw; (try dsimp only at hSw); go_simp; first | done | with_reducible rfl)
          try simp only [Act.put, List.setIfInBounds_toArray, List.set_cons_zero, List.set_cons_succ]
          refine any_take 7 (v := ?_) rfl rfl (by kernel_rfl) (by kernel_rfl) (by kernel_rfl) (fun _ _ _ h => h) hS0 ?_ ?_
          rotate_left
          · (intro w' hSw; (try dsimp only at hSw); go_simp; first | done | with_reducible rfl)
          try simp only [Act.put, List.setIfInBounds_toArray, List.set_cons_zero, List.set_cons_succ]
          refine any_take 8 (v := ?_) rfl rfl (by kernel_rfl) (by kernel_rfl) (by kernel_rfl) (fun _ _ _ h => h) hS0 ?_ ?_
          rotate_left
          · (intro w' hSw; (try dsimp only at hSw); go_simp; first | done | with_reducible rfl)
          try simp only [Act.put, List.setIfInBounds_toArray, List.set_cons_zero, List.set_cons_succ]
          refine any_take 9 (v := ?_) rfl rfl (by kernel_rfl) (by kernel_rfl) (by kernel_rfl) (fun _ _ _ h => h) hS0 ?_ ?_
          rotate_left
          · (intro w' hSw; (try dsimp only at hSw); go_simp; first | done | with_reducible rfl)
          try simp only [Act.put, List.setIfInBounds_toArray, List.set_cons_zero, List.set_cons_succ]
          refine any_take 10 (v := ?_) rfl rfl (by kernel_rfl) (by kernel_rfl) (by kernel_rfl) (fun _ _ _ h => h) hS0 ?_ ?_
          rotate_left
          · (intro w' hSw; (try dsimp only at hSw); go_simp; first | done | with_reducible rfl)
          try simp only [Act.put, List.setIfInBounds_toArray, List.set_cons_zero, List.set_cons_succ]
          refine any_take 11 (v := ?_) rfl rfl (by kernel_rfl) (by kernel_rfl) (by kernel_rfl) (fun _ _ _ h => h) hS0 ?_ ?_
          rotate_left
          · (intro w' hSw; (try dsimp only at hSw); go_simp; first | done | with_reducible rfl)
          try simp only [Act.put, List.setIfInBounds_toArray, List.set_cons_zero, List.set_cons_succ]
          refine any_take 12 (v := ?_) rfl rfl (by kernel_rfl) (by kernel_rfl) (by kernel_rfl) (fun _ _ _ h => h) hS0 ?_ ?_
          rotate_left
          · (intro w' hSw; (try dsimp only at hSw); go_simp; first | done | with_reducible rfl)
          try simp only [Act.put, List.setIfInBounds_toArray, List.set_cons_zero, List.set_cons_succ]
          refine any_take 13 (v := ?_) rfl rfl (by kernel_rfl) (by kernel_rfl) (by kernel_rfl) (fun _ _ _ h => h) hS0 ?_ ?_
          rotate_left
          · (intro w' hSw; (try dsimp only at hSw); go_simp; first | done | with_reducible rfl)
          try simp only [Act.put, List.setIfInBounds_toArray, List.set_cons_zero, List.set_cons_succ]
          refine any_take 14 (v := .int .u64 (z : Int)) rfl rfl (by kernel_rfl) (by kernel_rfl) (by kernel_rfl) (fun _ _ _ h => h) hS0 (fun w' hw => ?_) ?_
          · (have hrun := hmul; clear hw; go_simp)
          try simp only [Act.put, List.setIfInBounds_toArray, List.set_cons_zero, List.set_cons_succ]
          refine any_one 5 (by kernel_rfl) rfl rfl (fun K hK => ?_)
          go_simp
          refine hK _ _ hS0 (fun hS1 => ?_)
          clear hK K
          try simp only [Act.put, List.setIfInBounds_toArray, List.set_cons_zero, List.set_cons_succ]
          refine any_take 15 (v := .int .u64 (s : Int)) rfl rfl (by kernel_rfl) (by kernel_rfl) (by kernel_rfl) (fun _ _ _ h => h) hS1 (fun w' hw => ?_) ?_
          · (have hrun := hadd; clear hw; go_simp)
          try simp only [Act.put, List.setIfInBounds_toArray, List.set_cons_zero, List.set_cons_succ]
          refine any_take 16 (v := ?_) rfl rfl (by kernel_rfl) (by kernel_rfl) (by kernel_rfl) (fun _ _ _ h => h) hS1 ?_ ?_
          rotate_left
          · (intro w' hSw; (try dsimp only at hSw); go_simp; first | done | with_reducible rfl)
          try simp only [Act.put, List.setIfInBounds_toArray, List.set_cons_zero, List.set_cons_succ]
          refine any_one 17 (by kernel_rfl) rfl rfl (fun K hK => ?_)
          go_simp
          refine hK _ _ ⟨(World.cell?_of_block (a := ⟨ba, oa + i, none⟩) (Below.heap_setCell _ ⟨w.heap.size, i + k, none⟩ _ ba (by show ba ≠ w.heap.size; omega))).trans hS1.1, (World.cell?_of_block (a := ⟨bb, ob + k, none⟩) (Below.heap_setCell _ ⟨w.heap.size, i + k, none⟩ _ bb (by show bb ≠ w.heap.size; omega))).trans hS1.2⟩ (fun hS2 => ?_)
          clear hK K
          refine any_done (by kernel_rfl) (NoPanic.normal ?_)
          have blk2 : Blk (wr.setCell ⟨w.heap.size, i + k, none⟩ (.int .u64 (s : Int))).drew w.heap.size 33 (ncells .u64 (L.set (i + k) s)) := by rw [← ncells_set]; exact BLK.out.store (i + k) _
          have bel2 : Below w.heap.size w (wr.setCell ⟨w.heap.size, i + k, none⟩ (.int .u64 (s : Int))).drew := (BEL.out.setCell (p := ⟨w.heap.size, i + k, none⟩) (Nat.le_refl _) _).drew
          clear hca2 hcb cl fl hmul hadd e1 e2 e3 e4 q1 q2
          go_wp2_with fail
          generalize (wr.setCell ⟨w.heap.size, i + k, none⟩ (.int .u64 (s : Int))).drew = w2 at blk2 bel2 ⊢
          obtain ⟨wo2, rfl⟩ : ∃ wo2 : World, wo2 = w2 := ⟨_, rfl⟩
          go_loopw [8] (fun jv wr => ∃ (j : Nat) (L : List Nat), jv = .int .i64 j ∧ j < N ∧ Blk wr w.heap.size 33 (ncells .u64 L) ∧ Hid (Carry N V j L) ∧ Below w.heap.size w wr) (fun jv _ => N - (intOf jv).toNat)
          case atStart => exact ⟨i + k, _, rfl, hik, blk2, CAR, bel2⟩
          case round =>
            clear blk2 bel2 CAR BLK BEL
            obtain ⟨j, L, rfl, hjN, blk, car, bel⟩ := hrel
            obtain ⟨u, hu⟩ : ∃ u, u = L.getD j 0 := ⟨_, rfl⟩
            have cu := (blk.cell j).trans (ncells_at L j (by rw [car.out.len]; exact hjN))
            rw [← hu] at cu
            have fu := blk.frozen j
            have hjI : (j : Int) < (N : Int) := by omega
            have HU := Lib.hid hu
            by_cases hbig : 65535 < u
            · have hbI : (65535 : Int) < (u : Int) := by omega
              have hj1 := car.out.lt (by rw [← hu]; exact hbig) VLT.out
              have hnx := car.out.next (by rw [← hu]; exact hbig) VLT.out
              have hub := car.out.big
              rw [← hu] at hnx hub
              obtain ⟨v1, hv1⟩ : ∃ v1, v1 = L.getD (j + 1) 0 := ⟨_, rfl⟩
              have hv1s := car.out.fine (j + 1) (by omega)
              rw [← hv1] at hnx hv1s
              have cv := (blk.cell (j + 1)).trans (ncells_at L (j + 1) (by rw [car.out.len]; exact hj1))
              rw [← hv1] at cv
              have fv := blk.frozen (j + 1)
              obtain ⟨q, hq⟩ : ∃ q, q = u / 65536 := ⟨_, rfl⟩
              obtain ⟨r, hr⟩ : ∃ r, r = u % 65536 := ⟨_, rfl⟩
              obtain ⟨t, ht⟩ : ∃ t, t = v1 + q := ⟨_, rfl⟩
              rw [← hq, ← hr, ← ht] at hnx
              have d1 : (u : Int) / 65536 = (q : Int) := by omega
              have d2 : (u : Int).tdiv 65536 = (q : Int) := by rw [Int.tdiv_eq_ediv_of_nonneg (by omega)]; omega
              have d3 : IntKind.u64.wrap (q : Int) = (q : Int) := by rw [IntKind.wrap_u64]; omega
              have m1 : (u : Int) % 65536 = (r : Int) := by omega
              have m2 : (u : Int).tmod 65536 = (r : Int) := by rw [Int.tmod_eq_emod_of_nonneg (by omega)]; omega
              have hadd : IntKind.u64.wrap ((v1 : Int) + (q : Int)) = (t : Int) := by rw [IntKind.wrap_u64]; omega
              have e1 : IntKind.i64.wrap ((j : Int) + 1) = (j : Int) + 1 := by rw [IntKind.wrap_i64]; omega
              have e2 : (0 : Int) ≤ (j : Int) + 1 := by omega
              have e3 : (j : Int) + 1 < (N : Int) := by omega
              have e4 : ((j : Int) + 1).toNat = j + 1 := by omega
              have NX := Lib.hid hnx
              have BLK := Lib.hid blk
              have BEL := Lib.hid bel
              clear hnx blk bel car hu hub hv1 hv1s hq hr ht
              go_wp2_with fail
              refine any_begin (fun w' => w'.cell? ⟨w.heap.size, j, none⟩ = some (.int .u64 (u : Nat))) (by kernel_rfl) cu (fun hS0 => ?_)
              refine any_take 0 (v := ?_) rfl rfl (by kernel_rfl) (by kernel_rfl) (by kernel_rfl) (fun _ _ _ h => h) hS0 ?_ ?_
              rotate_left
              · (intro w' hSw; (try dsimp only at hSw); go_simp; first | done | with_reducible rfl)
              try simp only [Act.put, List.setIfInBounds_toArray, List.set_cons_zero, List.set_cons_succ]
              refine any_take 1 (v := ?_) rfl rfl (by kernel_rfl) (by kernel_rfl) (by kernel_rfl) (fun _ _ _ h => h) hS0 ?_ ?_
              rotate_left
              · (intro w' hSw; (try dsimp only at hSw); go_simp; first | done | with_reducible rfl)
              try simp only [Act.put, List.setIfInBounds_toArray, List.set_cons_zero, List.set_cons_succ]
              refine any_take 2 (v := ?_) rfl rfl (by kernel_rfl) (by kernel_rfl) (by kernel_rfl) (fun _ _ _ h => h) hS0 ?_ ?_
              rotate_left
              · (intro w' hSw; (try dsimp only at hSw); go_simp; first | done | with_reducible rfl)
              try simp only [Act.put, List.setIfInBounds_toArray, List.set_cons_zero, List.set_cons_succ]
              refine any_take 3 (v := ?_) rfl rfl (by kernel_rfl) (by kernel_rfl) (by kernel_rfl) (fun _ _ _ h => h) hS0 ?_ ?_
              rotate_left
              · (intro w' hSw; (try dsimp only at hSw); go_simp; first | done | with_reducible rfl)
              try simp only [Act.put, List.setIfInBounds_toArray, List.set_cons_zero, List.set_cons_succ]
              refine any_take 5 (v := ?_) rfl rfl (by kernel_rfl) (by kernel_rfl) (by kernel_rfl) (fun _ _ _ h => h) hS0 ?_ ?_
              rotate_left
              · (intro w' hSw; (try dsimp only at hSw); go_simp; first | done | with_reducible rfl)
              try simp only [Act.put, List.setIfInBounds_toArray, List.set_cons_zero, List.set_cons_succ]
              refine any_take 6 (v := ?_) rfl rfl (by kernel_rfl) (by kernel_rfl) (by kernel_rfl) (fun _ _ _ h => h) hS0 ?_ ?_
              rotate_left
              · (intro w' hSw; (try dsimp only at hSw); go_simp; first | done | with_reducible rfl)
              try simp only [Act.put, List.setIfInBounds_toArray, List.set_cons_zero, List.set_cons_succ]
              refine any_take 7 (v := ?_) rfl rfl (by kernel_rfl) (by kernel_rfl) (by kernel_rfl) (fun _ _ _ h => h) hS0 ?_ ?_
              rotate_left
              · (intro w' hSw; (try dsimp only at hSw); go_simp; first | done | with_reducible rfl)
              try simp only [Act.put, List.setIfInBounds_toArray, List.set_cons_zero, List.set_cons_succ]
              refine any_take 8 (v := ?_) rfl rfl (by kernel_rfl) (by kernel_rfl) (by kernel_rfl) (fun _ _ _ h => h) hS0 ?_ ?_
              rotate_left
              · (intro w' hSw; (try dsimp only at hSw); go_simp; first | done | with_reducible rfl)
              try simp only [Act.put, List.setIfInBounds_toArray, List.set_cons_zero, List.set_cons_succ]
              refine any_take 9 (v := .int .u64 (q : Int)) rfl rfl (by kernel_rfl) (by kernel_rfl) (by kernel_rfl) (fun _ _ _ h => h) hS0 (fun w' hw => ?_) ?_
              · (have hrun := d1; clear hw; go_simp)
              try simp only [Act.put, List.setIfInBounds_toArray, List.set_cons_zero, List.set_cons_succ]
              refine any_one 4 (by kernel_rfl) rfl rfl (fun K hK => ?_)
              go_simp
              refine hK _ _ hS0 (fun hS1 => ?_)
              clear hK K
              try simp only [Act.put, List.setIfInBounds_toArray, List.set_cons_zero, List.set_cons_succ]
              refine any_take 10 (v := .int .u64 (t : Int)) rfl rfl (by kernel_rfl) (by kernel_rfl) (by kernel_rfl) (fun _ _ _ h => h) hS1 (fun w' hw => ?_) ?_
              · (have hrun := hadd; clear hw; go_simp)
              try simp only [Act.put, List.setIfInBounds_toArray, List.set_cons_zero, List.set_cons_succ]
              refine any_take 11 (v := ?_) rfl rfl (by kernel_rfl) (by kernel_rfl) (by kernel_rfl) (fun _ _ _ h => h) hS1 ?_ ?_
              rotate_left
              · (intro w' hSw; (try dsimp only at hSw); go_simp; first | done | with_reducible rfl)
              try simp only [Act.put, List.setIfInBounds_toArray, List.set_cons_zero, List.set_cons_succ]
              refine any_one 12 (by kernel_rfl) rfl rfl (fun K hK => ?_)
              go_simp
              refine hK _ _ (by simpa [go_sem] using hS1) (fun hS2 => ?_)
              clear hK K
              refine any_done (by kernel_rfl) (NoPanic.normal ?_)
              clear hS0 hS1 hS2 e1 e2 e3 e4 hadd d1 d2 d3
              go_wp2_with fail
              refine ⟨⟨j + 1, _, by simp, hj1, ?_, NX, (BEL.out.setCell (p := ⟨w.heap.size, j + 1, none⟩) (Nat.le_refl _) _).setCell (p := ⟨w.heap.size, j, none⟩) (Nat.le_refl _) _ |>.drew⟩, by simp [intOf]; omega⟩
              rw [← ncells_set, ← ncells_set]
              exact (BLK.out.store (j + 1) _).store j _
            · have hfin := car.out.done (by rw [← hu]; omega)
              have hbI : ¬ (65535 : Int) < (u : Int) := by omega
              have hd1 : decide ((65535 : Int) < (u : Int)) = false := decide_eq_false hbI
              have hd2 : decide (65535 < u) = false := decide_eq_false hbig
              have hlen := car.out.len
              have hsay := car.out.say
              rw [HV.out] at hsay
              have HF : Hid (L.length = N ∧ Fine L ∧ val L = val (a.take i) * val b + 65536 ^ i * x * val (b.take (k + 1))) := Lib.hid ⟨hlen, hfin, hsay⟩
              clear hfin hlen hsay car hu
              go_wp2_with fail
              exact ⟨⟨k + 1, L, by omega, by simp, blk, HF, bel⟩, by simp [intOf]; omega⟩
        · obtain rfl : n2 = k := by omega
          have hval := hinv.out.2.2
          rw [List.take_of_length_le (l := b) (by rw [← HB.out]; exact Nat.le_refl _)] at hval
          have hnext : val (a.take (i + 1)) * val b = val (a.take i) * val b + 65536 ^ i * x * val b := by rw [val_take_succ a i hia, Nat.add_mul, ← HX.out]
          rw [← hnext] at hval
          have HV := Lib.hid hval
          clear hval hnext
          go_wp2_with fail
          exact ⟨⟨i + 1, L, by omega, by simp, blk, Lib.hid ⟨hinv.out.1, hinv.out.2.1, HV.out⟩, bel⟩, by simp [intOf]; omega⟩
    · obtain rfl : n1 = i := by omega
      have hval := hinv.out.2.2
      rw [List.take_of_length_le (by rw [← HA.out]; exact Nat.le_refl _)] at hval
      have own : OwnI .u64 33 wr w.heap.size (.slice (some ⟨w.heap.size, 0, none⟩) N N) L := by
        have h := OwnI.of_blk blk (Nat.le_refl _) (by rw [hinv.out.1]; unfold maxLen; omega)
        rwa [hinv.out.1] at h
      have HV := Lib.hid hval
      clear hval
      go_wp2_with fail
      go_ret
      exact ⟨_, L, rfl, own, hinv.out.2.1, HV.out, hinv.out.1, bel⟩

end Go.Proofs.Ytehhgfkbcjbciaa
