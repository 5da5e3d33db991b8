/- stillroomlaw2.ShaParts returns true. -/
import Derived.Test.YtehhgfkbcjbciaaShaTwo
import Derived.Test.YtehhgfkbcjbciaaLaw1
namespace Go.Proofs.Ytehhgfkbcjbciaa
open Go.RowKit

/-- a piece of a slice -/
theorem RdB.piece {w : World} {D : Nat} {A : Option Addr} {l : List UInt8} (h : RdB w D A l) (lo hi c : Nat) (h1 : lo ≤ hi) (h2 : hi ≤ l.length) (h3 : l.length ≤ c) :
    ∃ A', sliced A lo hi c 1 = .slice A' (hi - lo) (c - lo) ∧ RdB w D A' ((l.drop lo).take (hi - lo)) := by
  unfold sliced
  by_cases hc : c = lo
  · refine ⟨_, rfl, ?_⟩
    rw [show hi - lo = 0 from by omega, List.take_zero]
    exact Rd.nil _ _ _
  · rw [if_neg hc, Nat.mul_one]
    exact ⟨_, rfl, h.cut lo (hi - lo)⟩

theorem run_piece_u8 (w : World) (A : Option Addr) (n c lo hi : Nat) (h1 : lo ≤ hi) (h2 : hi ≤ c) (X Y : Int) (hX : X = (lo : Int)) (hY : Y = (hi : Int)) :
    (Instr.slice 24 (.slice A n c) (some (.int .i64 X)) (some (.int .i64 Y)) none).run Try.prog w = .ok (sliced A lo hi c 1) w := by
  obtain ⟨i, hi', hz0, hz1, hz2⟩ := info_parts info_u8
  subst hX hY
  rw [run_slice_lh (P := Try.prog) w 24 A n c Try.underlying24 .i64 .i64 (lo : Int) (hi : Int) (by omega) (by omega) (by omega)]
  simp [sizeOf, typeInfo, show Try.prog.elem 24 = 5 from by kernel_rfl, hi', hz1, Result.andThen]

theorem run_front_u8 (w : World) (A : Option Addr) (n c hi : Nat) (h2 : hi ≤ c) (Y : Int) (hY : Y = (hi : Int)) :
    (Instr.slice 24 (.slice A n c) none (some (.int .i64 Y)) none).run Try.prog w = .ok (sliced A 0 hi c 1) w := by
  obtain ⟨i, hi', hz0, hz1, hz2⟩ := info_parts info_u8
  subst hY
  rw [run_slice_h (P := Try.prog) w 24 A n c Try.underlying24 .i64 (hi : Int) (by omega) (by omega)]
  simp [sizeOf, typeInfo, show Try.prog.elem 24 = 5 from by kernel_rfl, hi', hz1, Result.andThen]

theorem wpList_piece_u8 {ops : Array Oper} {rest : List Oper} {o : Oper} {a : Act} {Q : Exit → Act → World → Prop} {w : World} (hgd : o.guard = none) (s x y : Operand)
    (ho : o.op = .slice 24 s (some x) (some y) none) (A : Option Addr) (n c lo hi : Nat) (hs : a.eval s = .slice A n c) (hx : a.eval x = .int .i64 (lo : Int)) (hy : a.eval y = .int .i64 (hi : Int)) (h1 : lo ≤ hi) (h2 : hi ≤ c)
    (h : wpList Try.prog ops Q rest (a.put o.dst (sliced A lo hi c 1)) w) : wpList Try.prog ops Q (o :: rest) a w := by
  refine wpList_plain hgd fun K hK => ?_
  have hrun := run_piece_u8 w A n c lo hi h1 h2 _ _ rfl rfl
  unfold Oper.wp execOp
  simp [ho, hs, hx, hy, run_sliceAt_slice (P := Try.prog) w 24 _ _ _ _ Try.underlying24, hrun, Result.andThen]
  exact hK _ _ h

/-- a length of at most 69 out of any number -/
theorem tmod70 (z : Int) : ∃ m : Nat, m ≤ 69 ∧ (z.tmod 70 = (m : Int) ∨ (0 < m ∧ z.tmod 70 = -(m : Int))) := by
  have h1 := Int.tmod_lt_of_pos z (show (0 : Int) < 70 by omega)
  have h2 := Int.lt_tmod_of_pos z (show (0 : Int) < 70 by omega)
  by_cases h : 0 ≤ z.tmod 70
  · exact ⟨(z.tmod 70).toNat, by omega, .inl (by omega)⟩
  · exact ⟨(-(z.tmod 70)).toNat, by omega, .inr ⟨by omega, by omega⟩⟩

/-- one hash, begun in w0 -/
structure One (w0 w : World) (g : Nat) (v : Value) (M : List UInt8) : Prop where
  hash : HashK w w0.heap.size g (M.length / 64) v M
  bel : Below w0.heap.size w0 w
  g0 : w0.heap.size ≤ g

theorem One.below {w0 w w' : World} {g : Nat} {v : Value} {M : List UInt8} (p : One w0 w g v M) (t : Below w.heap.size w w') : One w0 w' g v M := ⟨p.hash.below t, p.bel.trans (t.mono p.bel.size), p.g0⟩

theorem One.wrote {w0 w w' : World} {g : Nat} {v : Value} {M M' : List UInt8} {e : Ending} (p : One w0 w g v M) (hw : Wrote w w0.heap.size g v M' e w') : e = .returned (.tuple #[]) ∧ ∃ u, One w0 w' g u M' := by
  obtain ⟨he, u', hh, t, la⟩ := hw
  exact ⟨he, u', hh, t.below p.bel p.g0 (fun k hk => (p.hash.rest.lt k hk).1) p.bel.size, p.g0⟩

theorem One.drew {w0 w : World} {g : Nat} {v : Value} {M : List UInt8} (p : One w0 w g v M) : One w0 w.drew g v M := ⟨⟨p.hash.blk, p.hash.rest.keep fun _ _ => rfl, p.hash.le⟩, p.bel.drew, p.g0⟩

/-- a piece more -/
theorem one_write (w0 w : World) (g : Nat) (v : Value) (a : List UInt8) (p t : Nat) (A : Option Addr) (n c : Nat) (D : Nat) (o : One w0 w g v (a.take p)) (hpt : p ≤ t) (ht : t ≤ a.length) (ha : (a.length : Int) ≤ 1000) (hr : RdB w0 D A ((a.drop p).take (t - p))) (hD : D ≤ w0.heap.size) (hn : n = t - p) :
    Calls Try.prog 46 #[.pointer (some ⟨g, 0, none⟩), .slice A n c] w fun e w' => e = .returned (.tuple #[]) ∧ ∃ u, One w0 w' g u (a.take t) := by
  subst hn
  have h1 : ((a.drop p).take (t - p)).length = t - p := part_len a p (t - p) (by omega)
  refine (write_any w0.heap.size g _ v (a.take p) ((a.drop p).take (t - p)) A (t - p) c w o.hash h1.symm D (hr.below (o.bel.mono hD)) (by have := o.g0; omega) o.bel.size (by rw [List.length_take]; omega) (by omega)).mono ?_
  intro e w' hw
  rw [← List.take_add, show p + (t - p) = t from by omega] at hw
  exact o.wrote hw

set_option maxRecDepth 100000 in
set_option maxHeartbeats 4000000 in
theorem shaParts_walk (A1 A2 : Option Addr) (c1 c2 : Nat) (b : List UInt8) (l : List Int) (w : World) (h1 : b.length ≤ c1) (h2 : l.length ≤ c2) (m1 : c1 ≤ maxLen) (m2 : c2 ≤ maxLen)
    (rb : RdB w w.heap.size A1 b) (rl : Rd w w.heap.size A2 (l.map (Value.int .i64))) :
    Calls Try.prog 14 #[.slice A1 b.length c1, .slice A2 l.length c2] w fun e w' => e = .returned (.bool true) ∧ Below w.heap.size w w' := by
  have mx : l.length ≤ 9223372036854775807 := by unfold maxLen at m2; omega
  have RL := Lib.hid rl
  clear rl
  go_enter Try.func14, Try.ntmps14
  go_wp2_with fail
  refine (begun2 _).mono ?_
  rintro e w1 ⟨rfl, hb1⟩
  have HB1 := Lib.hid hb1
  go_wp2_with fail
  refine (short_any A1 _ c1 300 b _ w.heap.size rfl h1 m1 (by omega) (rb.below hb1)).mono ?_
  rintro e w' ⟨⟨rfl, ra1⟩, rfl⟩
  have la : (b.take 300).length ≤ 300 := List.length_take_le _ _
  have ka : (b.take 300).length ≤ c1 := by simp; omega
  have RA : Hid (RdB w w.heap.size A1 (b.take 300)) := Lib.hid (rb.take 300)
  generalize b.take 300 = a at *
  obtain ⟨n, hn⟩ : ∃ n, n = a.length := ⟨_, rfl⟩
  have N := Lib.hid hn
  rw [← hn] at la ka ⊢
  have hs1 := hb1.size
  clear ra1 rb hb1 hn m1 m2 h1
  go_wp2_with fail
  refine (new_any w1).mono ?_
  rintro e w2 ⟨g, rfl, hg, hh, b2⟩
  have one : One w w2 g (.slice none 0 0) (a.take 0) := by
    rw [List.take_zero]
    exact ⟨hh.base hs1, HB1.out.trans (b2.mono hs1), by omega⟩
  clear hh b2
  have hgd := guard32
  have he := fun (k : Nat) w => eq32_same w (sha (a.take k)) (sha_len _)
  have HE := Lib.hid he
  clear he
  go_wp2_with fail
  go_loopw [7, 8] (fun at_ i wr => ∃ (p q : Nat) (v : Value), p ≤ n ∧ q ≤ 12 ∧ q ≤ l.length ∧ at_ = .int .i64 p ∧ i = .int .i64 q ∧ One w wr g v (a.take p)) (fun _ i _ => 12 - (intOf i).toNat)
  case atStart => exact ⟨0, 0, _, by omega, by omega, by omega, rfl, rfl, one⟩
  case round =>
    clear one
    obtain ⟨p, q, v, hp, hq, hql', rfl, rfl, one⟩ := hrel
    have ONE := Lib.hid one
    by_cases hx : q < 12 ∧ q < l.length
    · obtain ⟨hq12, hql⟩ := hx
      obtain ⟨bb, off, rfl, hbb, hc⟩ := (RL.out.below one.bel).at_ (k := q) (by simpa using hql)
      simp only [List.getElem_map] at hc
      obtain ⟨m, hm, hmz⟩ := tmod70 l[q]
      have hhe : ∀ w, (Op.equalIn 10000 64 (.agg (bcells (sha (a.take (min n (p + m)))))) (.agg (bcells (sha (a.take (min n (p + m))))))).run Try.prog w = .ok true w := HE.out _
      obtain ⟨t, ht⟩ : ∃ t, min n (p + m) = t := ⟨_, rfl⟩
      rw [ht] at hhe
      have hpt : p ≤ t := by omega
      have htn : t ≤ n := by omega
      have HT := Lib.hid ht
      clear one ht
      obtain ⟨A3, hA3, r3⟩ := RA.out.piece p t c1 hpt (by rw [← N.out]; exact htn) (by rw [← N.out]; exact ka)
      have R3 := Lib.hid r3
      have HA3 := Lib.hid hA3
      clear r3 hA3
      rcases hmz with hmz | ⟨hm0, hmz⟩
      all_goals
        go_upto_region 13 with fail
        clear hc hmz
        go_wp2_with (first
          | (refine wpList_min rfl (.tmp 37) (.tmp 40) rfl n (p + m) t rfl rfl HT.out ?_)
          | (refine wpList_piece_u8 rfl _ _ _ rfl A1 n c1 p t rfl rfl rfl hpt (by omega) ?_; rw [HA3.out]))
        refine (one_write w _ g v a p t A3 (t - p) (c1 - p) w.heap.size ONE.out hpt (by rw [← N.out]; exact htn) (by rw [← N.out]; omega) R3.out (Nat.le_refl _) rfl).mono ?_
        rintro e x1 ⟨rfl, u, one1⟩
        have ONE1 := Lib.hid one1.drew
        have hs := one1.bel.size
        have htc : t ≤ c1 := by omega
        clear one1
        go_wp2_with fail
        refine any_begin (fun _ => True) (by kernel_rfl) trivial (fun hS0 => ?_)
        refine any_take 0 (v := ?_) rfl rfl (by kernel_rfl) (by kernel_rfl) (by kernel_rfl) (fun _ _ _ h => h) hS0 ?_ ?_
        rotate_left
        · (intro w' hSw; (try dsimp only at hSw); go_simp; first | done | with_reducible rfl)
        try simp only [Act.put, List.setIfInBounds_toArray, List.set_cons_zero, List.set_cons_succ]
        refine any_take 2 (v := ?_) rfl rfl (by kernel_rfl) (by kernel_rfl) (by kernel_rfl) (fun _ _ _ h => h) hS0 ?_ ?_
        rotate_left
        · (intro w' hSw; (try dsimp only at hSw); go_simp; first | done | with_reducible rfl)
        try simp only [Act.put, List.setIfInBounds_toArray, List.set_cons_zero, List.set_cons_succ]
        refine any_take 3 (v := ?_) rfl rfl (by kernel_rfl) (by kernel_rfl) (by kernel_rfl) (fun _ _ _ h => h) hS0 ?_ ?_
        rotate_left
        · (intro w' hSw; (try dsimp only at hSw); go_simp; first | done | with_reducible rfl)
        try simp only [Act.put, List.setIfInBounds_toArray, List.set_cons_zero, List.set_cons_succ]
        refine any_take 4 (v := ?_) rfl rfl (by kernel_rfl) (by kernel_rfl) (by kernel_rfl) (fun _ _ _ h => h) hS0 ?_ ?_
        rotate_left
        · (intro w' hSw; (try dsimp only at hSw); go_simp; first | done | with_reducible rfl)
        try simp only [Act.put, List.setIfInBounds_toArray, List.set_cons_zero, List.set_cons_succ]
        refine any_one 1 (by kernel_rfl) rfl rfl (fun K1 hK1 => ?_)
        go_simp
        refine (sum_any _ g u (a.take t) _ ONE1.out.hash (by rw [List.length_take]; omega)).mono ?_
        rintro e x2 ⟨rfl, bx2⟩
        have one2 := ONE1.out.below bx2
        have ONE2 := Lib.hid one2
        have hs2 := one2.bel.size
        clear bx2 one2
        refine hK1 _ _ trivial (fun hS1 => ?_)
        clear hK1 K1
        try simp only [Act.put, List.setIfInBounds_toArray, List.set_cons_zero, List.set_cons_succ]
        refine any_one 5 (by kernel_rfl) rfl rfl (fun K2 hK2 => ?_)
        go_simp
        refine (shaSum_any A1 t c1 w.heap.size (a.take t) x2 (by rw [List.length_take, ← N.out]; omega) ((RA.out.take t).below ONE2.out.bel) ONE2.out.bel.size (by rw [List.length_take]; omega)).mono ?_
        rintro e x3 ⟨rfl, bx3⟩
        have one3 := ONE2.out.below bx3
        have ONE3 := Lib.hid one3
        clear bx3 one3
        refine hK2 _ _ trivial (fun hS2 => ?_)
        clear hK2 K2
        try simp only [Act.put, List.setIfInBounds_toArray, List.set_cons_zero, List.set_cons_succ]
        refine any_take 6 (v := ?_) rfl rfl (by kernel_rfl) (by kernel_rfl) (by kernel_rfl) (fun _ _ _ h => h) hS2 ?_ ?_
        rotate_left
        · (intro w' hSw; (try dsimp only at hSw); go_simp; first | done | with_reducible rfl)
        try simp only [Act.put, List.setIfInBounds_toArray, List.set_cons_zero, List.set_cons_succ]
        refine any_done (by kernel_rfl) (NoPanic.normal ?_)
        go_wp2_with fail
        exact ⟨⟨t, q + 1, _, htn, by omega, by omega, rfl, by simp, ONE3.out⟩, by simp [intOf]; omega⟩
    · have hor : (¬ q < 12 ∧ q < l.length) ∨ (¬ q < 12 ∧ ¬ q < l.length) ∨ (q < 12 ∧ ¬ q < l.length) := by omega
      obtain ⟨A4, hA4, r4⟩ := RA.out.piece p n c1 hp (by rw [← N.out]; exact Nat.le_refl _) (by rw [← N.out]; exact ka)
      have R4 := Lib.hid r4
      have HA4 := Lib.hid hA4
      have hta : a.take n = a := List.take_of_length_le (by rw [← N.out]; exact Nat.le_refl _)
      have HTA := Lib.hid hta
      have hhe : ∀ w, (Op.equalIn 10000 64 (.agg (bcells (sha a))) (.agg (bcells (sha a)))).run Try.prog w = .ok true w := fun w => eq32_same w (sha a) (sha_len _)
      have hla : (a.length : Int) ≤ 100000 := by rw [← N.out]; omega
      have HLA := Lib.hid hla
      clear r4 hA4 one hx hta hla
      rcases hor with ⟨hq12, hql⟩ | ⟨hq12, hql⟩ | ⟨hq12, hql⟩
      all_goals
        go_wp2_with (refine wpList_cut_u8 rfl _ _ rfl A1 n c1 p rfl rfl hp ?_; rw [HA4.out])
        refine (one_write w _ g v a p n A4 (n - p) (c1 - p) w.heap.size ONE.out hp (by rw [← N.out]; exact Nat.le_refl _) (by rw [← N.out]; omega) R4.out (Nat.le_refl _) rfl).mono ?_
        rintro e x1 ⟨rfl, u, one1⟩
        rw [HTA.out] at one1
        have ONE1 := Lib.hid one1
        clear one1
        go_wp2_with fail
        refine (sum_any _ g u a _ ONE1.out.hash HLA.out).mono ?_
        rintro e x2 ⟨rfl, bx2⟩
        have ONE2 := Lib.hid (ONE1.out.below bx2)
        clear bx2
        go_wp2_with fail
        refine (shaSum_any A1 n c1 w.heap.size a x2 N.out (RA.out.below ONE2.out.bel) ONE2.out.bel.size HLA.out).mono ?_
        rintro e x3 ⟨rfl, bx3⟩
        have ONE3 := Lib.hid (ONE2.out.below bx3)
        clear bx3
        go_wp2_with fail
        refine (sum_any _ g u a _ ONE3.out.hash HLA.out).mono ?_
        rintro e x4 ⟨rfl, bx4⟩
        have ONE4 := Lib.hid (ONE3.out.below bx4)
        clear bx4
        go_wp2_with fail
        refine (shaSum_any A1 n c1 w.heap.size a x4 N.out (RA.out.below ONE4.out.bel) ONE4.out.bel.size HLA.out).mono ?_
        rintro e x5 ⟨rfl, bx5⟩
        have one5 := ONE4.out.below bx5
        go_wp2_with fail
        go_ret
        exact ⟨rfl, one5.bel⟩

end Go.Proofs.Ytehhgfkbcjbciaa
