/- stillroomlaw2.ShaTwo returns true. -/
import Derived.Test.YtehhgfkbcjbciaaBegun2
import Derived.Test.YtehhgfkbcjbciaaArrEq
import Derived.Deep.Cut
import Derived.Deep.DeepCutAuto
namespace Go.Proofs.Ytehhgfkbcjbciaa
open Go.RowKit

/-- two rests lie in two blocks -/
def Sep (u v : Value) : Prop := ∀ k, u.ownBlock = some k → v.ownBlock ≠ some k

theorem Sep.symm {u v : Value} (h : Sep u v) : Sep v u := fun k hv hu => h k hu hv


theorem HashK.below {w w' : World} {b g k : Nat} {v : Value} {M : List UInt8} (hh : HashK w b g k v M) (t : Below w.heap.size w w') : HashK w' b g k v M :=
  ⟨hh.blk.below t hh.blk.lt, hh.rest.below t (fun i hi => (hh.rest.lt i hi).2), hh.le⟩

theorem HashK.base {w : World} {b b' g k : Nat} {v : Value} {M : List UInt8} (hh : HashK w b g k v M) (h : b' ≤ b) : HashK w b' g k v M := ⟨hh.blk, hh.rest.base h, hh.le⟩

/-- two hashes, each for itself -/
structure Pair (w0 w : World) (g h : Nat) (u v : Value) (M N : List UInt8) : Prop where
  one : HashK w w0.heap.size g (M.length / 64) u M
  two : HashK w w0.heap.size h (N.length / 64) v N
  sep : Sep u v
  bel : Below w0.heap.size w0 w
  g0 : w0.heap.size ≤ g
  h0 : w0.heap.size ≤ h
  ne : g ≠ h

theorem Pair.symm {w0 w : World} {g h : Nat} {u v : Value} {M N : List UInt8} (p : Pair w0 w g h u v M N) : Pair w0 w h g v u N M :=
  ⟨p.two, p.one, p.sep.symm, p.bel, p.h0, p.g0, fun e => p.ne e.symm⟩

theorem Pair.wrote {w0 w w' : World} {g h : Nat} {u v : Value} {M M' N : List UInt8} {e : Ending} (p : Pair w0 w g h u v M N) (hw : Wrote w w0.heap.size g u M' e w') :
    e = .returned (.tuple #[]) ∧ ∃ u', Pair w0 w' g h u' v M' N := by
  obtain ⟨he, u', hh, t, la⟩ := hw
  have n1 : u.ownBlock ≠ some h := p.one.rest.ne p.two.blk (by decide)
  have n2 : v.ownBlock ≠ some g := p.two.rest.ne p.one.blk (by decide)
  refine ⟨he, u', hh, ⟨(t.block h p.two.blk.lt (fun e => p.ne e.symm) (fun e => n1 e.symm)).trans p.two.blk, p.two.rest.two t n2 ?_, p.two.le⟩, ?_, t.below p.bel p.g0 (fun k hk => (p.one.rest.lt k hk).1) p.bel.size, p.g0, p.h0, p.ne⟩
  · cases hv : v.ownBlock with
    | none => exact .inl rfl
    | some k => exact .inr (fun e => p.sep k e.symm hv)
  · intro k hk hv
    rcases la with e | ⟨j, e, hj⟩
    · exact p.sep k (by rw [← e, hk]) hv
    · rw [hk] at e
      injection e with e
      have := (p.two.rest.lt k hv).2
      omega

theorem Pair.below {w0 w w' : World} {g h : Nat} {u v : Value} {M N : List UInt8} (p : Pair w0 w g h u v M N) (t : Below w.heap.size w w') : Pair w0 w' g h u v M N :=
  ⟨p.one.below t, p.two.below t, p.sep, p.bel.trans (t.mono p.bel.size), p.g0, p.h0, p.ne⟩

theorem take_next (l : List UInt8) (k : Nat) : l.take k ++ (l.drop k).take 1 = l.take (k + 1) := by rw [List.take_add]

/-- one byte more for the first -/
theorem pair_write (w0 w : World) (g h : Nat) (u v : Value) (a N : List UInt8) (k : Nat) (b off c D n : Nat) (p : Pair w0 w g h u v (a.take k) N) (hk : k < a.length) (ha : (a.length : Int) ≤ 1000) (hr : RdB w0 D (some ⟨b, off, none⟩) a) (hD : D ≤ w0.heap.size) (hn : n = 1) :
    Calls Try.prog 46 #[.pointer (some ⟨g, 0, none⟩), .slice (some ⟨b, off + k, none⟩) n c] w fun e w' => e = .returned (.tuple #[]) ∧ ∃ u', Pair w0 w' g h u' v (a.take (k + 1)) N := by
  subst hn
  have h1 : ((a.drop k).take 1).length = 1 := part_len a k 1 (by omega)
  have hb := p.bel.size
  refine (write_any w0.heap.size g _ u (a.take k) ((a.drop k).take 1) _ 1 c w p.one h1.symm D ((hr.below (p.bel.mono hD)).part k 1) (by have := p.g0; omega) hb (by rw [List.length_take]; omega) (by omega)).mono ?_
  intro e w' hw
  rw [take_next] at hw
  exact p.wrote hw


set_option maxRecDepth 100000 in
set_option maxHeartbeats 4000000 in
theorem shaTwo_walk (A0 A1 : Option Addr) (c0 c1 n0 n1 : Nat) (l0 l1 : List UInt8) (w : World) (N0 : Hid (n0 = l0.length)) (N1 : Hid (n1 = l1.length)) (h0 : n0 ≤ c0) (h1 : n1 ≤ c1) (m0 : c0 ≤ maxLen) (m1 : c1 ≤ maxLen) (r0 : RdB w w.heap.size A0 l0) (r1 : RdB w w.heap.size A1 l1) :
    Calls Try.prog 17 #[.slice A0 n0 c0, .slice A1 n1 c1] w fun e w' => e = .returned (.bool true) ∧ Below w.heap.size w w' := by
  have mx0 : n0 ≤ 9223372036854775807 := by unfold maxLen at m0; omega
  have mx1 : n1 ≤ 9223372036854775807 := by unfold maxLen at m1; omega
  have R0 := Lib.hid r0
  have R1 := Lib.hid r1
  clear r0 r1 m0 m1
  go_enter Try.func17, Try.ntmps17
  go_wp2_with fail
  refine (begun2 _).mono ?_
  rintro e w1 ⟨rfl, hb1⟩
  have HB1 := Lib.hid hb1
  clear hb1
  by_cases t0 : 200 < n0 <;> by_cases t1 : 200 < n1
  all_goals
    have e0 : ∃ (k0 : Nat) (a : List UInt8), (200 < n0 → k0 = 200) ∧ (¬ 200 < n0 → k0 = n0) ∧ Hid (a.length = k0) ∧ k0 ≤ 200 ∧ k0 ≤ c0 ∧ Hid (RdB w w.heap.size A0 a) := by
      by_cases t : 200 < n0
      · exact ⟨200, l0.take 200, fun _ => rfl, fun h => absurd t h, Lib.hid (by rw [List.length_take, ← N0.out]; omega), by omega, by omega, Lib.hid (R0.out.take 200)⟩
      · exact ⟨n0, l0, fun h => absurd h t, fun _ => rfl, Lib.hid N0.out.symm, by omega, h0, R0⟩
    have e1 : ∃ (k1 : Nat) (b : List UInt8), (200 < n1 → k1 = 200) ∧ (¬ 200 < n1 → k1 = n1) ∧ Hid (b.length = k1) ∧ k1 ≤ 200 ∧ k1 ≤ c1 ∧ Hid (RdB w w.heap.size A1 b) := by
      by_cases t : 200 < n1
      · exact ⟨200, l1.take 200, fun _ => rfl, fun h => absurd t h, Lib.hid (by rw [List.length_take, ← N1.out]; omega), by omega, by omega, Lib.hid (R1.out.take 200)⟩
      · exact ⟨n1, l1, fun h => absurd h t, fun _ => rfl, Lib.hid N1.out.symm, by omega, h1, R1⟩
    obtain ⟨k0, a, e0, f0, K0, ka, kc0, ra⟩ := e0
    obtain ⟨k1, b, e1, f1, K1, kb, kc1, rb⟩ := e1
    go_upto_region 6 with fail
    first | rw [← e0 t0] | rw [← f0 t0]
    go_upto_region 8 with fail
    first | rw [← e1 t1] | rw [← f1 t1]
    clear e0 f0 e1 f1 t0 t1 N0 N1 R0 R1 h0 h1 mx0 mx1
    have hs1 := HB1.out.size
    go_wp2_with fail
    refine (new_any w1).mono ?_
    rintro e w2 ⟨g, rfl, hg, hh, b2⟩
    replace b2 := HB1.out.trans (b2.mono hs1)
    have hs2 := b2.size
    have B2 := Lib.hid b2
    have HH := Lib.hid hh
    have lt2 := hh.blk.lt
    clear b2 hh
    go_wp2_with fail
    refine (new_any w2).mono ?_
    rintro e w3 ⟨h, rfl, hgh, hh2, b3⟩
    have pair : Pair w w3 g h (.slice none 0 0) (.slice none 0 0) (a.take 0) (b.take 0) := by
      rw [List.take_zero, List.take_zero]
      exact ⟨(HH.out.below b3).base (by omega), hh2.base (by omega), (fun k hk => by cases hk), B2.out.trans (b3.mono hs2), by omega, by omega, by omega⟩
    clear hh2 b3 lt2 hgh hg
    have hgd := guard32
    have he0 := fun w => eq32_same w (sha a) (sha_len a)
    have he1 := fun w => eq32_same w (sha b) (sha_len b)
    go_wp2_with fail
    go_loopw [8] (fun i wr => ∃ (k : Nat) (u v : Value), k ≤ 200 ∧ i = .int .i64 k ∧ Pair w wr g h u v (a.take k) (b.take k)) (fun i _ => 200 - (intOf i).toNat)
    case atStart => exact ⟨0, _, _, by omega, rfl, pair⟩
    case round =>
      clear pair
      obtain ⟨k, u, v, hk, rfl, pair⟩ := hrel
      have PAIR := Lib.hid pair
      clear pair
      by_cases q0 : k < k0 <;> by_cases q1 : k < k1
      · obtain ⟨bb0, off0, rfl, _, _⟩ := ra.out (by rw [List.length_map, K0.out]; omega)
        obtain ⟨bb1, off1, rfl, _, _⟩ := rb.out (by rw [List.length_map, K1.out]; omega)
        go_wp2_with fail
        refine (pair_write w _ g h u v a (b.take k) k bb0 off0 _ w.heap.size _ PAIR.out (by rw [K0.out]; omega) (by rw [K0.out]; omega) ra.out (Nat.le_refl _) (by omega)).mono ?_
        rintro e x1 ⟨rfl, u', pair1⟩
        replace pair1 := Lib.hid pair1
        go_wp2_with fail
        refine (pair_write w _ h g v u' b (a.take (k + 1)) k bb1 off1 _ w.heap.size _ pair1.out.symm (by rw [K1.out]; omega) (by rw [K1.out]; omega) rb.out (Nat.le_refl _) (by omega)).mono ?_
        rintro e x2 ⟨rfl, v', pair2⟩
        replace pair2 := Lib.hid pair2
        go_wp2_with fail
        exact ⟨⟨k + 1, u', v', by omega, by simp, pair2.out.symm⟩, by simp [intOf]; omega⟩
      · obtain ⟨bb0, off0, rfl, _, _⟩ := ra.out (by rw [List.length_map, K0.out]; omega)
        go_wp2_with fail
        refine (pair_write w _ g h u v a (b.take k) k bb0 off0 _ w.heap.size _ PAIR.out (by rw [K0.out]; omega) (by rw [K0.out]; omega) ra.out (Nat.le_refl _) (by omega)).mono ?_
        rintro e x1 ⟨rfl, u', pair1⟩
        rw [List.take_of_length_le (l := b) (by rw [K1.out]; omega), ← List.take_of_length_le (l := b) (i := k + 1) (by rw [K1.out]; omega)] at pair1
        replace pair1 := Lib.hid pair1
        go_wp2_with fail
        exact ⟨⟨k + 1, u', v, by omega, by simp, pair1.out⟩, by simp [intOf]; omega⟩
      · obtain ⟨bb1, off1, rfl, _, _⟩ := rb.out (by rw [List.length_map, K1.out]; omega)
        go_wp2_with fail
        refine (pair_write w _ h g v u b (a.take k) k bb1 off1 _ w.heap.size _ PAIR.out.symm (by rw [K1.out]; omega) (by rw [K1.out]; omega) rb.out (Nat.le_refl _) (by omega)).mono ?_
        rintro e x2 ⟨rfl, v', pair2⟩
        rw [List.take_of_length_le (l := a) (by rw [K0.out]; omega), ← List.take_of_length_le (l := a) (i := k + 1) (by rw [K0.out]; omega)] at pair2
        replace pair2 := Lib.hid pair2
        go_wp2_with fail
        exact ⟨⟨k + 1, u, v', by omega, by simp, pair2.out.symm⟩, by simp [intOf]; omega⟩
      · have pair := PAIR.out
        rw [List.take_of_length_le (l := a) (by rw [K0.out]; omega), List.take_of_length_le (l := b) (by rw [K1.out]; omega)] at pair
        have hla : (a.length : Int) ≤ 100000 := by rw [K0.out]; omega
        have hlb : (b.length : Int) ≤ 100000 := by rw [K1.out]; omega
        have HLA := Lib.hid hla
        have HLB := Lib.hid hlb
        replace pair := Lib.hid pair
        clear PAIR hla hlb
        go_wp2_with fail
        refine (sum_any _ g u a _ pair.out.one HLA.out).mono ?_
        rintro e y1 ⟨rfl, b1⟩
        have p1 := Lib.hid (pair.out.below b1)
        clear b1
        go_wp2_with fail
        refine (shaSum_any A0 k0 c0 w.heap.size a y1 K0.out.symm (ra.out.below p1.out.bel) p1.out.bel.size HLA.out).mono ?_
        rintro e y2 ⟨rfl, b2⟩
        have p2 := Lib.hid (p1.out.below b2)
        clear b2
        go_wp2_with fail
        refine (sum_any _ h v b _ p2.out.two HLB.out).mono ?_
        rintro e y3 ⟨rfl, b3⟩
        have p3 := Lib.hid (p2.out.below b3)
        clear b3
        go_wp2_with fail
        refine (shaSum_any A1 k1 c1 w.heap.size b y3 K1.out.symm (rb.out.below p3.out.bel) p3.out.bel.size HLB.out).mono ?_
        rintro e y4 ⟨rfl, b4⟩
        have p4 := p3.out.below b4
        go_wp2_with fail
        go_ret
        exact ⟨rfl, p4.bel⟩

end Go.Proofs.Ytehhgfkbcjbciaa
