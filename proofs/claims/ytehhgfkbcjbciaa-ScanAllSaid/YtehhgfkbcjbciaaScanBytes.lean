/- The walk of ScanBytes. -/
import Derived.Test.YtehhgfkbcjbciaaBegun7
import Derived.Test.YtehhgfkbcjbciaaLaw1
namespace Go.Proofs.Ytehhgfkbcjbciaa
open Go.RowKit

/-- what Decode gives, back to bytes -/
theorem dec_back {l : List UInt8} {R : Rec} {n : Nat} (h : dec l = (R, n, 0)) : R.may = true ∧ R.Ok ∧ enc R = l.take n ∧ n ≤ l.length ∧ 39 ≤ n := by
  have hok := dec_ok (l := l) (by rw [h])
  rw [h] at hok
  simp only at hok
  unfold dec at h
  split at h
  · simp at h
  · rename_i hb
    split at h
    · simp at h
    · rename_i h39
      split at h
      · simp at h
      · rename_i hm
        split at h
        · simp at h
        · rename_i hmore
          split at h
          · rename_i hcrc
            obtain ⟨e1, e2⟩ := Prod.mk.inj h
            obtain ⟨e2, _⟩ := Prod.mk.inj e2
            have hN1 : dsz l ≤ 1000 := by omega
            have hmay : (headRec l).may = true := by
              cases hh : (headRec l).may with
              | true => rfl
              | false => exact absurd (Or.inr hh) hm
            have hbeg : beg l = true := by simpa using hb
            have h2 : l.take 2 = [83, 82] := by
              apply take2_of_beg _ (by omega)
              intro j hj
              unfold beg at hbeg
              rw [Bool.and_eq_true, decide_eq_true_eq] at hbeg
              exact hbeg.1 j (by omega)
            have he := (enc_dec l (dsz l) rfl (by omega) h2 hmay hN1).2 hcrc
            subst e1 e2
            have hs : (⟨((l.drop 39).take (dsz l)).toArray⟩ : ByteArray).size = dsz l := by
              show ((l.drop 39).take (dsz l)).toArray.size = dsz l
              rw [List.size_toArray, part_len l 39 (dsz l) (by omega)]
            obtain ⟨m1, m2, m3, m4, m5, _⟩ := may_spec hmay
            refine ⟨?_, ⟨by simp only []; omega, by simp only []; omega, get_part_lt l 3 4, by simp only []; omega, by simp only []; omega, by simp only []; omega⟩, he, hok.2, hok.1⟩
            simp only [Rec.may, decide_eq_true_eq]
            rw [hs]
            exact ⟨m1, m2, m3, m4, m5, hN1⟩
          · simp at h

/-- finds at rising places, each whole -/
def Good (b : List UInt8) : Nat → List (Nat × Rec) → Prop
  | _, [] => True
  | a, f :: t => a ≤ f.1 ∧ f.1 < b.length ∧ ∃ n, dec (b.drop f.1) = (f.2, n, 0) ∧ Good b (f.1 + n) t

theorem Good.mono {b : List UInt8} {a a' : Nat} {t : List (Nat × Rec)} (h : Good b a t) (ha : a' ≤ a) : Good b a' t := by
  cases t with
  | nil => trivial
  | cons f t => exact ⟨Nat.le_trans ha h.1, h.2⟩

theorem good_all (b : List UInt8) : ∀ m k, b.length - k ≤ m → Good b k (allS b k) := by
  intro m
  induction m with
  | zero => intro k hk; rw [allS_end (by omega)]; trivial
  | succ m ih =>
    intro k hk
    by_cases hlt : k < b.length
    · by_cases h0 : (dec (b.drop k)).2.2 = 0
      · rw [allS_hit hlt h0]
        obtain ⟨R, n, er, hx⟩ : ∃ R n er, dec (b.drop k) = (R, n, er) := ⟨_, _, _, rfl⟩
        have hn := (dec_ok h0).1
        rw [hx] at h0 hn ⊢
        simp only at h0 hn ⊢
        subst h0
        exact ⟨Nat.le_refl _, hlt, n, hx, ih (k + n) (by omega)⟩
      · rw [allS_miss hlt h0]
        exact (ih (k + 1) (by omega)).mono (by omega)
    · rw [allS_end (by omega)]; trivial

theorem allS_len (b : List UInt8) : ∀ m k, b.length - k ≤ m → (allS b k).length ≤ b.length - k := by
  intro m
  induction m with
  | zero => intro k hk; rw [allS_end (by omega)]; simp
  | succ m ih =>
    intro k hk
    by_cases hlt : k < b.length
    · by_cases h0 : (dec (b.drop k)).2.2 = 0
      · have hn := (dec_ok h0).1
        rw [allS_hit hlt h0, List.length_cons]
        have := ih (k + (dec (b.drop k)).2.1) (by omega)
        omega
      · rw [allS_miss hlt h0]
        have := ih (k + 1) (by omega)
        omega
    · rw [allS_end (by omega)]; simp

set_option maxRecDepth 100000 in
set_option maxHeartbeats 4000000 in
theorem scanBytes_walk (A : Option Addr) (c : Nat) (l0 : List UInt8) (w : World) (h1 : l0.length ≤ c) (m1 : c ≤ maxLen) (ra : RdB w w.heap.size A l0) :
    Calls Try.prog 11 #[.slice A l0.length c] w fun e w' => e = .returned (.bool true) ∧ Below w.heap.size w w' := by
  go_enter Try.func11, Try.ntmps11
  go_wp2_with fail
  refine (begun7_any _).mono ?_
  rintro e w1 ⟨rfl, hb1⟩
  go_wp2_with fail
  refine (short_any A _ c 400 l0 _ w.heap.size rfl h1 m1 (by omega) (ra.below hb1)).mono ?_
  rintro e w' ⟨⟨rfl, ra1⟩, rfl⟩
  have l1 : (l0.take 400).length ≤ 400 := List.length_take_le _ _
  have k1 : (l0.take 400).length ≤ c := by simp; omega
  have ra2 := ra
  generalize l0.take 400 = l at *
  clear ra ra2 h1
  have hz1 := hb1.size
  have R1 := Lib.hid ra1
  clear ra1
  go_wp2_with fail
  refine (scanAll_any A c l w1 (Rd.mono R1.out hz1) (by omega) k1 m1).mono ?_
  rintro e w2 ⟨v2, rfl, own2, hb2⟩
  have bel2 := hb1.trans (hb2.mono hz1)
  have R2 := Lib.hid (R1.out.below (hb2.mono hz1))
  have hz2 := bel2.size
  have hgood := good_all l l.length 0 (by omega)
  have hlen := allS_len l l.length 0 (by omega)
  obtain ⟨A2, c2, rfl, hc2, _, r2, _⟩ := own2.slice
  generalize hLL : allS l 0 = LL at *
  have HLL := Lib.hid hLL
  have F2 := Lib.hid r2
  clear hLL own2 hb2 r2 hb1
  go_wp2_with fail
  go_loopw [5, 6] (fun at_ i wr => ∃ a k : Nat, k ≤ LL.length ∧ at_ = .int .i64 a ∧ i = .int .i64 k ∧ a ≤ l.length ∧ Good l a (LL.drop k) ∧ Below w2.heap.size w2 wr) (fun _ i _ => LL.length - (intOf i).toNat)
  case atStart => exact ⟨0, 0, by omega, rfl, rfl, by omega, hgood, Below.refl _ _⟩
  case round =>
    clear hgood
    obtain ⟨a, i, hk, rfl, rfl, ha, good, bel⟩ := hrel
    by_cases hlt : i < LL.length
    · rw [List.drop_eq_getElem_cons hlt] at good
      obtain ⟨g1, g2, n, gd, g3⟩ := good
      obtain ⟨b2, off2, rfl, hbb, h7⟩ := F2.out.at_ hlt
      obtain ⟨bb, off, rfl, hb, hcell⟩ := Rd.at_ R2.out (k := 0) (by simp; omega)
      clear hcell
      obtain ⟨d1, d2, d3, d4, d5⟩ := dec_back gd
      rw [List.length_drop] at d4
      have hnl : (enc LL[i].2).length = n := by rw [d3, List.length_take, List.length_drop]; omega
      have hbs := bel.size
      have D3 := Lib.hid d3
      have HNL := Lib.hid hnl
      have GD := Lib.hid (And.intro g3 gd)
      have EA := Lib.hid (fun W => refEncode_any LL[i].2 W d2 (by have := (may_spec d1).2.2.2.2.2; unfold maxLen; omega))
      unfold Rec.cells at EA
      have H7 := Lib.hid (h7.keep bel hbb)
      have hil : (i : Int) < (LL.length : Int) := by omega
      have q := H7.out
      unfold Seven at q
      obtain ⟨q0, q1, q2, q3, q4, q5, q6⟩ := q
      have hge : (a : Int) ≤ (LL[i].1 : Int) := by omega
      have hle : (LL[i].1 : Int) ≤ (l.length : Int) := by omega
      generalize hK : LL[i].1 = K at *
      have HK := Lib.hid hK
      clear d1 d2 d3 hnl g3 gd h7 hK
      go_wp2_with fail
      refine (EA.out _).mono ?_
      rintro e w3 ⟨v3, rfl, own3, hb3⟩
      obtain ⟨A3, c3, rfl, hc3, _, r3, _⟩ := own3.slice
      rw [HNL.out] at hc3 ⊢
      have bel3 := bel.trans (hb3.mono hbs)
      have hbb3 : b2 < wr.heap.size := by omega
      have hk3 := (hb3.cell (p := ⟨b2, off2 + i * 7, none⟩) hbb3).trans q0
      have R3 := Lib.hid (R2.out.below (bel3.mono hz2))
      have X3 := Lib.hid r3
      clear q0 q1 q2 q3 q4 q5 q6 own3 hb3 r3
      have hck : c ≠ K := by omega
      have e0 : ((n : Int) == 0) = false := by simp; omega
      have e1 : ¬ ((l.length : Int) - (K : Int) < (n : Int)) := by omega
      have e2 : IntKind.i64.wrap ((l.length : Int) - (K : Int)) = (l.length : Int) - (K : Int) := by rw [IntKind.wrap_i64]; omega
      have e3 : IntKind.i64.wrap ((K : Int) + (n : Int)) = (K : Int) + (n : Int) := by rw [IntKind.wrap_i64]; omega
      have e4 : (K : Int) ≤ (K : Int) + (n : Int) := by omega
      have e5 : (K : Int) + (n : Int) ≤ (c : Int) := by omega
      have e6 : (0 : Int) ≤ (K : Int) + (n : Int) := by omega
      have e7 : ((K : Int) + (n : Int)).toNat = K + n := by omega
      have hpl := Lib.hid (part_len l K n (by omega))
      go_wp2_with fail
      refine any_begin (fun w' => w'.cell? ⟨b2, off2 + i * 7, none⟩ = some (.int .i64 (K : Int)) ∧ Below w3.heap.size w3 w') (by kernel_rfl) ⟨hk3, (Below.refl _ _).drew⟩ (fun hS0 => ?_)
      refine any_take 0 (v := ?_) rfl rfl (by kernel_rfl) (by kernel_rfl) (by kernel_rfl) (fun _ _ _ h => h) hS0 ?_ ?_
      rotate_left
      · (intro w' hSw; (try dsimp only at hSw); go_simp; first | done | with_reducible rfl)
      try simp only [Act.put, List.setIfInBounds_toArray, List.set_cons_zero, List.set_cons_succ]
      refine any_take 1 (v := ?_) rfl rfl (by kernel_rfl) (by kernel_rfl) (by kernel_rfl) (fun _ _ _ h => h) hS0 ?_ ?_
      rotate_left
      · (intro w' hSw; (try dsimp only at hSw); go_simp; first | done | with_reducible rfl)
      try simp only [Act.put, List.setIfInBounds_toArray, List.set_cons_zero, List.set_cons_succ]
      refine any_take 2 (v := ?_) rfl rfl (by kernel_rfl) (by kernel_rfl) (by kernel_rfl) (fun _ _ _ h => h) hS0 ?_ ?_
      rotate_left
      · (intro w' hSw; (try dsimp only at hSw); go_simp; first | done | with_reducible rfl)
      try simp only [Act.put, List.setIfInBounds_toArray, List.set_cons_zero, List.set_cons_succ]
      refine any_take 3 (v := ?_) rfl rfl (by kernel_rfl) (by kernel_rfl) (by kernel_rfl) (fun _ _ _ h => h) hS0 ?_ ?_
      rotate_left
      · (intro w' hSw; (try dsimp only at hSw); go_simp; first | done | with_reducible rfl)
      try simp only [Act.put, List.setIfInBounds_toArray, List.set_cons_zero, List.set_cons_succ]
      refine any_take 4 (v := ?_) rfl rfl (by kernel_rfl) (by kernel_rfl) (by kernel_rfl) (fun _ _ _ h => h) hS0 ?_ ?_
      rotate_left
      · (intro w' hSw; (try dsimp only at hSw); go_simp; first | done | with_reducible rfl)
      try simp only [Act.put, List.setIfInBounds_toArray, List.set_cons_zero, List.set_cons_succ]
      refine any_take 5 (v := ?_) rfl rfl (by kernel_rfl) (by kernel_rfl) (by kernel_rfl) (fun _ _ _ h => h) hS0 ?_ ?_
      rotate_left
      · (intro w' hSw; (try dsimp only at hSw); go_simp; first | done | with_reducible rfl)
      try simp only [Act.put, List.setIfInBounds_toArray, List.set_cons_zero, List.set_cons_succ]
      refine any_take 6 (v := ?_) rfl rfl (by kernel_rfl) (by kernel_rfl) (by kernel_rfl) (fun _ _ _ h => h) hS0 ?_ ?_
      rotate_left
      · (intro w' hSw; (try dsimp only at hSw); go_simp; first | done | with_reducible rfl)
      try simp only [Act.put, List.setIfInBounds_toArray, List.set_cons_zero, List.set_cons_succ]
      refine any_take 7 (v := ?_) rfl rfl (by kernel_rfl) (by kernel_rfl) (by kernel_rfl) (fun _ _ _ h => h) hS0 ?_ ?_
      rotate_left
      · (intro w' hSw; (try dsimp only at hSw); go_simp; first | done | with_reducible rfl)
      try simp only [Act.put, List.setIfInBounds_toArray, List.set_cons_zero, List.set_cons_succ]
      refine any_take 8 (v := ?_) rfl rfl (by kernel_rfl) (by kernel_rfl) (by kernel_rfl) (fun _ _ _ h => h) hS0 ?_ ?_
      rotate_left
      · (intro w' hSw; (try dsimp only at hSw); go_simp; first | done | with_reducible rfl)
      try simp only [Act.put, List.setIfInBounds_toArray, List.set_cons_zero, List.set_cons_succ]
      refine any_take 9 (v := ?_) rfl rfl (by kernel_rfl) (by kernel_rfl) (by kernel_rfl) (fun _ _ _ h => h) hS0 ?_ ?_
      rotate_left
      · (intro w' hSw; (try dsimp only at hSw); go_simp; first | done | with_reducible rfl)
      try simp only [Act.put, List.setIfInBounds_toArray, List.set_cons_zero, List.set_cons_succ]
      refine any_take 10 (v := ?_) rfl rfl (by kernel_rfl) (by kernel_rfl) (by kernel_rfl) (fun _ _ _ h => h) hS0 ?_ ?_
      rotate_left
      · (intro w' hSw; (try dsimp only at hSw); go_simp; first | done | with_reducible rfl)
      try simp only [Act.put, List.setIfInBounds_toArray, List.set_cons_zero, List.set_cons_succ]
      refine any_take 11 (v := ?_) rfl rfl (by kernel_rfl) (by kernel_rfl) (by kernel_rfl) (fun _ _ _ h => h) hS0 ?_ ?_
      rotate_left
      · (intro w' hSw; (try dsimp only at hSw); go_simp; first | done | with_reducible rfl)
      try simp only [Act.put, List.setIfInBounds_toArray, List.set_cons_zero, List.set_cons_succ]
      refine any_take 12 (v := ?_) rfl rfl (by kernel_rfl) (by kernel_rfl) (by kernel_rfl) (fun _ _ _ h => h) hS0 ?_ ?_
      rotate_left
      · (intro w' hSw; (try dsimp only at hSw); go_simp; first | done | with_reducible rfl)
      try simp only [Act.put, List.setIfInBounds_toArray, List.set_cons_zero, List.set_cons_succ]
      refine any_take 13 (v := ?_) rfl rfl (by kernel_rfl) (by kernel_rfl) (by kernel_rfl) (fun _ _ _ h => h) hS0 ?_ ?_
      rotate_left
      · (intro w' hSw; (try dsimp only at hSw); go_simp; first | done | with_reducible rfl)
      try simp only [Act.put, List.setIfInBounds_toArray, List.set_cons_zero, List.set_cons_succ]
      refine any_take 14 (v := (.bool false)) rfl rfl (by kernel_rfl) (by kernel_rfl) (by kernel_rfl) (fun _ _ _ h => h) hS0 (fun w' hw => ?_) ?_
      · (have hrun := e1; clear hw; go_simp)
      try simp only [Act.put, List.setIfInBounds_toArray, List.set_cons_zero, List.set_cons_succ]
      refine any_take 15 (v := ?_) rfl rfl (by kernel_rfl) (by kernel_rfl) (by kernel_rfl) (fun _ _ _ h => h) hS0 ?_ ?_
      rotate_left
      · (intro w' hSw; (try dsimp only at hSw); go_simp; first | done | with_reducible rfl)
      try simp only [Act.put, List.setIfInBounds_toArray, List.set_cons_zero, List.set_cons_succ]
      refine any_take 16 (v := ?_) rfl rfl (by kernel_rfl) (by kernel_rfl) (by kernel_rfl) (fun _ _ _ h => h) hS0 ?_ ?_
      rotate_left
      · (intro w' hSw; (try dsimp only at hSw); go_simp; first | done | with_reducible rfl)
      try simp only [Act.put, List.setIfInBounds_toArray, List.set_cons_zero, List.set_cons_succ]
      refine any_take 17 (v := ?_) rfl rfl (by kernel_rfl) (by kernel_rfl) (by kernel_rfl) (fun _ _ _ h => h) hS0 ?_ ?_
      rotate_left
      · (intro w' hSw; (try dsimp only at hSw); go_simp; first | done | with_reducible rfl)
      try simp only [Act.put, List.setIfInBounds_toArray, List.set_cons_zero, List.set_cons_succ]
      refine any_take 18 (v := ?_) rfl rfl (by kernel_rfl) (by kernel_rfl) (by kernel_rfl) (fun _ _ _ h => h) hS0 ?_ ?_
      rotate_left
      · (intro w' hSw; (try dsimp only at hSw); go_simp; first | done | with_reducible rfl)
      try simp only [Act.put, List.setIfInBounds_toArray, List.set_cons_zero, List.set_cons_succ]
      refine any_take 19 (v := ?_) rfl rfl (by kernel_rfl) (by kernel_rfl) (by kernel_rfl) (fun _ _ _ h => h) hS0 ?_ ?_
      rotate_left
      · (intro w' hSw; (try dsimp only at hSw); go_simp; first | done | with_reducible rfl)
      try simp only [Act.put, List.setIfInBounds_toArray, List.set_cons_zero, List.set_cons_succ]
      refine any_take 20 (v := ?_) rfl rfl (by kernel_rfl) (by kernel_rfl) (by kernel_rfl) (fun _ _ _ h => h) hS0 ?_ ?_
      rotate_left
      · (intro w' hSw; (try dsimp only at hSw); go_simp; first | done | with_reducible rfl)
      try simp only [Act.put, List.setIfInBounds_toArray, List.set_cons_zero, List.set_cons_succ]
      refine any_take 21 (v := ?_) rfl rfl (by kernel_rfl) (by kernel_rfl) (by kernel_rfl) (fun _ _ _ h => h) hS0 ?_ ?_
      rotate_left
      · (intro w' hSw; (try dsimp only at hSw); go_simp; first | done | with_reducible rfl)
      try simp only [Act.put, List.setIfInBounds_toArray, List.set_cons_zero, List.set_cons_succ]
      refine any_take 22 (v := ?_) rfl rfl (by kernel_rfl) (by kernel_rfl) (by kernel_rfl) (fun _ _ _ h => h) hS0 ?_ ?_
      rotate_left
      · (intro w' hSw; (try dsimp only at hSw); go_simp; first | done | with_reducible rfl)
      try simp only [Act.put, List.setIfInBounds_toArray, List.set_cons_zero, List.set_cons_succ]
      refine any_take 23 (v := ?_) rfl rfl (by kernel_rfl) (by kernel_rfl) (by kernel_rfl) (fun _ _ _ h => h) hS0 ?_ ?_
      rotate_left
      · (intro w' hSw; (try dsimp only at hSw); go_simp; first | done | with_reducible rfl)
      try simp only [Act.put, List.setIfInBounds_toArray, List.set_cons_zero, List.set_cons_succ]
      refine any_take 24 (v := ?_) rfl rfl (by kernel_rfl) (by kernel_rfl) (by kernel_rfl) (fun _ _ _ h => h) hS0 ?_ ?_
      rotate_left
      · (intro w' hSw; (try dsimp only at hSw); go_simp; first | done | with_reducible rfl)
      try simp only [Act.put, List.setIfInBounds_toArray, List.set_cons_zero, List.set_cons_succ]
      refine any_take 25 (v := ?_) rfl rfl (by kernel_rfl) (by kernel_rfl) (by kernel_rfl) (fun _ _ _ h => h) hS0 ?_ ?_
      rotate_left
      · (intro w' hSw; (try dsimp only at hSw); go_simp; first | done | with_reducible rfl)
      try simp only [Act.put, List.setIfInBounds_toArray, List.set_cons_zero, List.set_cons_succ]
      refine any_take 26 (v := ?_) rfl rfl (by kernel_rfl) (by kernel_rfl) (by kernel_rfl) (fun _ _ _ h => h) hS0 ?_ ?_
      rotate_left
      · (intro w' hSw; (try dsimp only at hSw); go_simp; first | done | with_reducible rfl)
      try simp only [Act.put, List.setIfInBounds_toArray, List.set_cons_zero, List.set_cons_succ]
      refine any_take 27 (v := ?_) rfl rfl (by kernel_rfl) (by kernel_rfl) (by kernel_rfl) (fun _ _ _ h => h) hS0 ?_ ?_
      rotate_left
      · (intro w' hSw; (try dsimp only at hSw); go_simp; first | done | with_reducible rfl)
      try simp only [Act.put, List.setIfInBounds_toArray, List.set_cons_zero, List.set_cons_succ]
      refine any_take 28 (v := ?_) rfl rfl (by kernel_rfl) (by kernel_rfl) (by kernel_rfl) (fun _ _ _ h => h) hS0 ?_ ?_
      rotate_left
      · (intro w' hSw; (try dsimp only at hSw); go_simp; first | done | with_reducible rfl)
      try simp only [Act.put, List.setIfInBounds_toArray, List.set_cons_zero, List.set_cons_succ]
      refine any_take 29 (v := ?_) rfl rfl (by kernel_rfl) (by kernel_rfl) (by kernel_rfl) (fun _ _ _ h => h) hS0 ?_ ?_
      rotate_left
      · (intro w' hSw; (try dsimp only at hSw); go_simp; first | done | with_reducible rfl)
      try simp only [Act.put, List.setIfInBounds_toArray, List.set_cons_zero, List.set_cons_succ]
      refine any_take 30 (v := ?_) rfl rfl (by kernel_rfl) (by kernel_rfl) (by kernel_rfl) (fun _ _ _ h => h) hS0 ?_ ?_
      rotate_left
      · (intro w' hSw; (try dsimp only at hSw); go_simp; first | done | with_reducible rfl)
      try simp only [Act.put, List.setIfInBounds_toArray, List.set_cons_zero, List.set_cons_succ]
      refine any_take 31 (v := ?_) rfl rfl (by kernel_rfl) (by kernel_rfl) (by kernel_rfl) (fun _ _ _ h => h) hS0 ?_ ?_
      rotate_left
      · (intro w' hSw; (try dsimp only at hSw); go_simp; first | done | with_reducible rfl)
      try simp only [Act.put, List.setIfInBounds_toArray, List.set_cons_zero, List.set_cons_succ]
      refine any_take 32 (v := (.string ⟨((l.drop K).take n).toArray⟩)) rfl rfl (by kernel_rfl) (by kernel_rfl) (by kernel_rfl) (fun _ _ _ h => h) hS0 (fun w' hw => ?_) ?_
      · (have hrun := run_str_of w' w.heap.size (some ⟨bb, off + K, none⟩) (c - K) n ((l.drop K).take n) hpl.out ((R3.out.below (hw.2.mono (by have := bel3.size; omega))).part K n); clear hw; go_simp)
      try simp only [Act.put, List.setIfInBounds_toArray, List.set_cons_zero, List.set_cons_succ]
      refine any_take 33 (v := ?_) rfl rfl (by kernel_rfl) (by kernel_rfl) (by kernel_rfl) (fun _ _ _ h => h) hS0 ?_ ?_
      rotate_left
      · (intro w' hSw; (try dsimp only at hSw); go_simp; first | done | with_reducible rfl)
      try simp only [Act.put, List.setIfInBounds_toArray, List.set_cons_zero, List.set_cons_succ]
      refine any_take 34 (v := (.string ⟨(enc LL[i].2).toArray⟩)) rfl rfl (by kernel_rfl) (by kernel_rfl) (by kernel_rfl) (fun _ _ _ h => h) hS0 (fun w' hw => ?_) ?_
      · (have hrun := run_str_of w' w3.heap.size A3 c3 n (enc LL[i].2) HNL.out (X3.out.below hw.2); clear hw; go_simp)
      try simp only [Act.put, List.setIfInBounds_toArray, List.set_cons_zero, List.set_cons_succ]
      refine any_take 35 (v := .bool false) rfl rfl (by kernel_rfl) (by kernel_rfl) (by kernel_rfl) (fun _ _ _ h => h) hS0 (fun w' hw => ?_) ?_
      · (clear hw; go_simp; first | exact D3.out | exact D3.out.symm)
      refine any_take 36 (v := ?_) rfl rfl (by kernel_rfl) (by kernel_rfl) (by kernel_rfl) (fun _ _ _ h => h) hS0 ?_ ?_
      rotate_left
      · (intro w' hSw; (try dsimp only at hSw); go_simp; first | done | with_reducible rfl)
      try simp only [Act.put, List.setIfInBounds_toArray, List.set_cons_zero, List.set_cons_succ]
      refine any_done (by kernel_rfl) (NoPanic.normal ?_)
      clear hS0 e0 e1 e2 e5 e7 hck
      have hk4 : w3.drew.cell? ⟨b2, off2 + i * 7, none⟩ = some (.int .i64 (K : Int)) := hk3
      have bel4 := bel3.drew
      clear hk3 bel3 X3 R3
      generalize w3.drew = w4 at *
      go_wp2
      go_roundw
      case rel => exact ⟨K + n, i + 1, by omega, by go_num, by go_num, by omega, GD.out.1, bel4⟩
      case measure => simp [intOf]; omega
    · obtain rfl : i = LL.length := by omega
      have hbs := bel.size
      have hlm : LL.length ≤ 100000 := by omega
      have R3 := Lib.hid (R2.out.below (bel.mono hz2))
      have F3 := Lib.hid (Rd.mono (Rd.below F2.out bel) hbs)
      have belw := bel2.trans (bel.mono hz2)
      have hzw := belw.size
      go_wp2_with fail
      refine (found_any A2 c2 LL wr F3.out hlm).mono ?_
      rintro e w5 ⟨v5, rfl, own5, hb5⟩
      have R5 := Lib.hid (R3.out.below (hb5.mono hzw))
      have bel5 := belw.trans (hb5.mono hzw)
      have hz5 := bel5.size
      go_wp2_with fail
      refine (refAll_any A c l w5 (Rd.mono R5.out hz5) (by omega) k1 m1).mono ?_
      rintro e w6 ⟨v6, rfl, own6, hb6⟩
      rw [HLL.out] at own6
      have own5' := own5.below hb6
      have bel6 := bel5.trans (hb6.mono hz5)
      have hz6 := bel6.size
      obtain ⟨A5, c5, rfl, _, _, r5, _⟩ := own5'.slice
      obtain ⟨A6, c6, rfl, _, _, r6, _⟩ := own6.slice
      have r5' := Lib.hid r5
      have r6' := Lib.hid r6
      clear own5 own5' own6 hb5 hb6 r5 r6
      go_wp2_with fail
      refine (eqAll_same A5 A6 c5 c6 LL w6 r5'.out r6'.out hlm).mono ?_
      rintro e w7 ⟨rfl, hb7⟩
      go_wp2
      go_ret
      exact ⟨rfl, bel6.trans (hb7.mono hz6)⟩

end Go.Proofs.Ytehhgfkbcjbciaa
