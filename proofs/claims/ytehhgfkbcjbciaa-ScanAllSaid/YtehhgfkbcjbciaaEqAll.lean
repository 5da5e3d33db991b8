/- stillroomlaw7.Found, stillroomref6.EqAll. -/
import Derived.Test.YtehhgfkbcjbciaaScan
namespace Go.Proofs.Ytehhgfkbcjbciaa
open Go.RowKit

/-- the seven cells of a find at an address -/
def Seven (w : World) (b o : Nat) (f : Nat × Rec) : Prop :=
  w.cell? ⟨b, o, none⟩ = some (.int .i64 (f.1 : Int)) ∧ w.cell? ⟨b, o + 1, none⟩ = some (.int .i64 f.2.kind) ∧ w.cell? ⟨b, o + 1 + 1, none⟩ = some (.int .u32 (f.2.tenant : Int)) ∧ w.cell? ⟨b, o + 1 + 2, none⟩ = some (.int .u64 (f.2.epoch : Int)) ∧
  w.cell? ⟨b, o + 1 + 3, none⟩ = some (.int .u64 (f.2.object : Int)) ∧ w.cell? ⟨b, o + 1 + 4, none⟩ = some (.int .u64 (f.2.seq : Int)) ∧ w.cell? ⟨b, o + 1 + 5, none⟩ = some (.string f.2.body)

theorem RdF.at_ {w : World} {D : Nat} {A : Option Addr} {l : List (Nat × Rec)} (h : RdF w D A l) {k : Nat} (hk : k < l.length) :
    ∃ b off, A = some ⟨b, off, none⟩ ∧ b < D ∧ Seven w b (off + k * 7) l[k] := by
  obtain ⟨b, off, e, hb, hc⟩ := h (by rw [fsCells_len]; omega)
  refine ⟨b, off, e, hb, ?_⟩
  have g : ∀ j, j < 7 → w.cell? ⟨b, off + k * 7 + j, none⟩ = (fcells l[k])[j]? := fun j hj => by
    rw [Nat.add_assoc, hc (k * 7 + j) (by rw [fsCells_len]; omega), fsCells_at l k j hk hj]
  refine ⟨g 0 (by omega), g 1 (by omega), g 2 (by omega), g 3 (by omega), g 4 (by omega), g 5 (by omega), g 6 (by omega)⟩

theorem Seven.keep {w w' : World} {b o : Nat} {f : Nat × Rec} {D : Nat} (h : Seven w b o f) (hb : Below D w w') (hD : b < D) : Seven w' b o f := by
  unfold Seven at *
  simp only [hb.cell (p := ⟨b, _, none⟩) hD]
  exact h

set_option maxRecDepth 100000 in
set_option maxHeartbeats 2000000 in
theorem found_any (A : Option Addr) (c : Nat) (l : List (Nat × Rec)) (w : World) (hr : RdF w w.heap.size A l) (hl : l.length ≤ 100000) :
    Calls Try.prog 38 #[.slice A l.length c] w fun e w' => ∃ v, e = .returned v ∧ OwnF 79 w' w.heap.size v l ∧ Below w.heap.size w w' := by
  have R0 := Lib.hid hr
  clear hr
  go_enter Try.func38, Try.ntmps38
  go_wp2
  go_loopw [3, 4] (fun v i wr => ∃ k : Nat, k ≤ l.length ∧ i = .int .i64 k ∧ OwnF 79 wr w.heap.size v (l.take k) ∧ Below w.heap.size w wr) (fun _ i _ => l.length - (intOf i).toNat)
  case atStart => exact ⟨0, by omega, rfl, OwnF.nil _ _ _, Below.refl _ _⟩
  case round =>
    obtain ⟨k, hk, rfl, own, bel⟩ := hrel
    by_cases hlt : k < l.length
    · obtain ⟨b, off, rfl, hb, h7⟩ := R0.out.at_ hlt
      have hsz := bel.size
      have hbr : b < wr.heap.size := by omega
      have h7r := h7.keep bel hb
      have H7 := Lib.hid h7r
      have hkl : (k : Int) < (l.length : Int) := by omega
      have Own := Lib.hid own
      have hlen : (l.take k).length ≤ 1000000 := by simp; omega
      clear own h7r
      have H70 := Lib.hid h7
      clear h7
      go_wp2_with fail
      refine any_begin (fun w' => w'.cell? ⟨b, off + k * 7, none⟩ = some (.int .i64 (l[k].1 : Int)) ∧ w'.cell? ⟨b, off + k * 7 + 1, none⟩ = some (.int .i64 l[k].2.kind) ∧ w'.cell? ⟨b, off + k * 7 + 1 + 1, none⟩ = some (.int .u32 (l[k].2.tenant : Int)) ∧ w'.cell? ⟨b, off + k * 7 + 1 + 2, none⟩ = some (.int .u64 (l[k].2.epoch : Int)) ∧ w'.cell? ⟨b, off + k * 7 + 1 + 3, none⟩ = some (.int .u64 (l[k].2.object : Int)) ∧ w'.cell? ⟨b, off + k * 7 + 1 + 4, none⟩ = some (.int .u64 (l[k].2.seq : Int)) ∧ w'.cell? ⟨b, off + k * 7 + 1 + 5, none⟩ = some (.string l[k].2.body)) (by kernel_rfl) H7.out (fun hS0 => ?_)
      refine any_take 0 (v := ?_) rfl rfl (by kernel_rfl) (by kernel_rfl) (by kernel_rfl) (fun _ _ _ h => h) hS0 ?_ ?_
      rotate_left
      · (intro w' hSw; (try dsimp only at hSw); go_simp; first | done | with_reducible rfl)
      try simp only [Act.put, List.setIfInBounds_toArray, List.set_cons_zero, List.set_cons_succ]
      refine any_take 1 (v := ?_) rfl rfl (by kernel_rfl) (by kernel_rfl) (by kernel_rfl) (fun _ _ _ h => h) hS0 ?_ ?_
      rotate_left
      · (intro w' hSw; (try dsimp only at hSw); go_simp; first | done | with_reducible rfl)
      try simp only [Act.put, List.setIfInBounds_toArray, List.set_cons_zero, List.set_cons_succ]
      refine any_take 2 (v := ?_) rfl rfl (by kernel_rfl) (by kernel_rfl) (by kernel_rfl) (fun _ _ _ h => h) hS0 ?_ ?_
      rotate_left
      · (intro w' hSw; (try dsimp only at hSw); go_simp; first | done | with_reducible rfl)
      try simp only [Act.put, List.setIfInBounds_toArray, List.set_cons_zero, List.set_cons_succ]
      refine any_take 3 (v := ?_) rfl rfl (by kernel_rfl) (by kernel_rfl) (by kernel_rfl) (fun _ _ _ h => h) hS0 ?_ ?_
      rotate_left
      · (intro w' hSw; (try dsimp only at hSw); go_simp; first | done | with_reducible rfl)
      try simp only [Act.put, List.setIfInBounds_toArray, List.set_cons_zero, List.set_cons_succ]
      refine any_take 4 (v := ?_) rfl rfl (by kernel_rfl) (by kernel_rfl) (by kernel_rfl) (fun _ _ _ h => h) hS0 ?_ ?_
      rotate_left
      · (intro w' hSw; (try dsimp only at hSw); go_simp; first | done | with_reducible rfl)
      try simp only [Act.put, List.setIfInBounds_toArray, List.set_cons_zero, List.set_cons_succ]
      refine any_take 5 (v := ?_) rfl rfl (by kernel_rfl) (by kernel_rfl) (by kernel_rfl) (fun _ _ _ h => h) hS0 ?_ ?_
      rotate_left
      · (intro w' hSw; (try dsimp only at hSw); go_simp; first | done | with_reducible rfl)
      try simp only [Act.put, List.setIfInBounds_toArray, List.set_cons_zero, List.set_cons_succ]
      refine any_take 6 (v := ?_) rfl rfl (by kernel_rfl) (by kernel_rfl) (by kernel_rfl) (fun _ _ _ h => h) hS0 ?_ ?_
      rotate_left
      · (intro w' hSw; (try dsimp only at hSw); go_simp; first | done | with_reducible rfl)
      try simp only [Act.put, List.setIfInBounds_toArray, List.set_cons_zero, List.set_cons_succ]
      refine any_take 7 (v := ?_) rfl rfl (by kernel_rfl) (by kernel_rfl) (by kernel_rfl) (fun _ _ _ h => h) hS0 ?_ ?_
      rotate_left
      · (intro w' hSw; (try dsimp only at hSw); go_simp; first | done | with_reducible rfl)
      try simp only [Act.put, List.setIfInBounds_toArray, List.set_cons_zero, List.set_cons_succ]
      refine any_take 8 (v := ?_) rfl rfl (by kernel_rfl) (by kernel_rfl) (by kernel_rfl) (fun _ _ _ h => h) hS0 ?_ ?_
      rotate_left
      · (intro w' hSw; (try dsimp only at hSw); go_simp; first | done | with_reducible rfl)
      try simp only [Act.put, List.setIfInBounds_toArray, List.set_cons_zero, List.set_cons_succ]
      refine any_take 9 (v := ?_) rfl rfl (by kernel_rfl) (by kernel_rfl) (by kernel_rfl) (fun _ _ _ h => h) hS0 ?_ ?_
      rotate_left
      · (intro w' hSw; (try dsimp only at hSw); go_simp; first | done | with_reducible rfl)
      try simp only [Act.put, List.setIfInBounds_toArray, List.set_cons_zero, List.set_cons_succ]
      refine any_take 10 (v := ?_) rfl rfl (by kernel_rfl) (by kernel_rfl) (by kernel_rfl) (fun _ _ _ h => h) hS0 ?_ ?_
      rotate_left
      · (intro w' hSw; (try dsimp only at hSw); go_simp; first | done | with_reducible rfl)
      try simp only [Act.put, List.setIfInBounds_toArray, List.set_cons_zero, List.set_cons_succ]
      refine any_take 11 (v := ?_) rfl rfl (by kernel_rfl) (by kernel_rfl) (by kernel_rfl) (fun _ _ _ h => h) hS0 ?_ ?_
      rotate_left
      · (intro w' hSw; (try dsimp only at hSw); go_simp; first | done | with_reducible rfl)
      try simp only [Act.put, List.setIfInBounds_toArray, List.set_cons_zero, List.set_cons_succ]
      refine any_one 12 (by kernel_rfl) rfl rfl (fun K1 hK1 => ?_)
      go_simp
      have blk2 : Blk (wr.alloc (.cells #[.int .i64 (l[k].1 : Int), .int .i64 l[k].2.kind, .int .u32 (l[k].2.tenant : Int), .int .u64 (l[k].2.epoch : Int), .int .u64 (l[k].2.object : Int), .int .u64 (l[k].2.seq : Int), .string l[k].2.body] 79)).drew wr.heap.size 79 (fcells l[k]).toArray := Blk.new wr _ _
      have bel2 : Below wr.heap.size wr (wr.alloc (.cells #[.int .i64 (l[k].1 : Int), .int .i64 l[k].2.kind, .int .u32 (l[k].2.tenant : Int), .int .u64 (l[k].2.epoch : Int), .int .u64 (l[k].2.object : Int), .int .u64 (l[k].2.seq : Int), .string l[k].2.body] 79)).drew := ((Below.refl _ wr).alloc (Nat.le_refl _) _).drew
      generalize (wr.alloc (.cells #[.int .i64 (l[k].1 : Int), .int .i64 l[k].2.kind, .int .u32 (l[k].2.tenant : Int), .int .u64 (l[k].2.epoch : Int), .int .u64 (l[k].2.object : Int), .int .u64 (l[k].2.seq : Int), .string l[k].2.body] 79)).drew = w2 at *
      have s2 := H7.out.keep bel2 hbr
      have own2 := Own.out.below bel2
      have hsz2 := bel2.size
      refine hK1 _ _ s2 (fun hS1 => ?_)
      clear hK1 K1
      try simp only [Act.put, List.setIfInBounds_toArray, List.set_cons_zero, List.set_cons_succ]
      refine any_one 13 (by kernel_rfl) rfl rfl (fun K2 hK2 => ?_)
      refine wp_append_f 51 79 _ _ rfl Try.underlying51 info_refFound w.heap.size u3 (l.take k) l[k] wr.heap.size rfl own2 rfl blk2 hlen (by omega) (fun v3 w3 own3 g3 => ?_)
      have bel3 : Below w.heap.size w w3 := (bel.trans (bel2.mono hsz)).grown g3 (by omega) (fun g hg => (own2.lt g hg).1)
      have s3 := H70.out.keep bel3 hb
      refine hK2 _ _ s3 (fun hS2 => ?_)
      clear hK2 K2
      try simp only [Act.put, List.setIfInBounds_toArray, List.set_cons_zero, List.set_cons_succ]
      refine any_one 14 (by kernel_rfl) rfl rfl (fun K3 hK3 => ?_)
      go_simp
      refine hK3 _ _ s3 (fun hS3 => ?_)
      clear hK3 K3
      try simp only [Act.put, List.setIfInBounds_toArray, List.set_cons_zero, List.set_cons_succ]
      refine any_done (by kernel_rfl) (NoPanic.normal ?_)
      have e : l.take (k + 1) = l.take k ++ [l[k]] := List.take_succ_eq_append_getElem hlt
      have He := Lib.hid e
      clear e
      go_wp2
      go_roundw
      case rel => exact ⟨k + 1, by omega, by go_num, by rw [He.out]; exact own3, bel3⟩
      case measure => simp [intOf]; omega
    · obtain rfl : k = l.length := by omega
      rw [List.take_length] at own
      go_wp2
      go_ret
      exact ⟨_, rfl, own, bel⟩

set_option maxRecDepth 100000 in
set_option maxHeartbeats 2000000 in
theorem eqAll_same (A B' : Option Addr) (c d : Nat) (l : List (Nat × Rec)) (w : World) (hr : RdF w w.heap.size A l) (hr' : RdF w w.heap.size B' l) (hl : l.length ≤ 100000) :
    Calls Try.prog 37 #[.slice A l.length c, .slice B' l.length d] w fun e w' => e = .returned (.bool true) ∧ Below w.heap.size w w' := by
  have R0 := Lib.hid hr
  have R1 := Lib.hid hr'
  clear hr hr'
  go_enter Try.func37, Try.ntmps37
  go_wp2
  go_loopw [5] (fun i wr => ∃ k : Nat, k ≤ l.length ∧ i = .int .i64 k ∧ Below w.heap.size w wr) (fun i _ => l.length - (intOf i).toNat)
  case atStart => exact ⟨0, by omega, rfl, Below.refl _ _⟩
  case round =>
    obtain ⟨k, hk, rfl, bel⟩ := hrel
    by_cases hlt : k < l.length
    · obtain ⟨b, off, rfl, hb, h7⟩ := R0.out.at_ hlt
      obtain ⟨b', off', rfl, hb', h7'⟩ := R1.out.at_ hlt
      have hsz := bel.size
      have H0 := Lib.hid h7
      have H1 := Lib.hid h7'
      have hkl : (k : Int) < (l.length : Int) := by omega
      have QT : ∀ W : World, Calls Try.prog 32 #[.agg #[.int .i64 l[k].2.kind, .int .u32 (l[k].2.tenant : Int), .int .u64 (l[k].2.epoch : Int), .int .u64 (l[k].2.object : Int), .int .u64 (l[k].2.seq : Int), .string l[k].2.body], .agg #[.int .i64 l[k].2.kind, .int .u32 (l[k].2.tenant : Int), .int .u64 (l[k].2.epoch : Int), .int .u64 (l[k].2.object : Int), .int .u64 (l[k].2.seq : Int), .string l[k].2.body]] W fun e w' => e = .returned (.bool true) ∧ Below W.heap.size W w' := fun W => by
        have h := eq_any l[k].2 l[k].2 W
        rwa [eqR_self] at h
      have QT' := Lib.hid QT
      clear h7 h7' QT
      go_wp2_with fail
      refine any_begin (fun w' => ((w'.cell? ⟨b, off + k * 7, none⟩ = some (.int .i64 (l[k].1 : Int)) ∧ w'.cell? ⟨b, off + k * 7 + 1, none⟩ = some (.int .i64 l[k].2.kind) ∧ w'.cell? ⟨b, off + k * 7 + 1 + 1, none⟩ = some (.int .u32 (l[k].2.tenant : Int)) ∧ w'.cell? ⟨b, off + k * 7 + 1 + 2, none⟩ = some (.int .u64 (l[k].2.epoch : Int)) ∧ w'.cell? ⟨b, off + k * 7 + 1 + 3, none⟩ = some (.int .u64 (l[k].2.object : Int)) ∧ w'.cell? ⟨b, off + k * 7 + 1 + 4, none⟩ = some (.int .u64 (l[k].2.seq : Int)) ∧ w'.cell? ⟨b, off + k * 7 + 1 + 5, none⟩ = some (.string l[k].2.body)) ∧ (w'.cell? ⟨b', off' + k * 7, none⟩ = some (.int .i64 (l[k].1 : Int)) ∧ w'.cell? ⟨b', off' + k * 7 + 1, none⟩ = some (.int .i64 l[k].2.kind) ∧ w'.cell? ⟨b', off' + k * 7 + 1 + 1, none⟩ = some (.int .u32 (l[k].2.tenant : Int)) ∧ w'.cell? ⟨b', off' + k * 7 + 1 + 2, none⟩ = some (.int .u64 (l[k].2.epoch : Int)) ∧ w'.cell? ⟨b', off' + k * 7 + 1 + 3, none⟩ = some (.int .u64 (l[k].2.object : Int)) ∧ w'.cell? ⟨b', off' + k * 7 + 1 + 4, none⟩ = some (.int .u64 (l[k].2.seq : Int)) ∧ w'.cell? ⟨b', off' + k * 7 + 1 + 5, none⟩ = some (.string l[k].2.body)))) (by kernel_rfl) ⟨H0.out.keep (bel.drew) hb, H1.out.keep (bel.drew) hb'⟩ (fun hS0 => ?_)
      refine any_take 0 (v := ?_) rfl rfl (by kernel_rfl) (by kernel_rfl) (by kernel_rfl) (fun _ _ _ h => h) hS0 ?_ ?_
      rotate_left
      · (intro w' hSw; (try dsimp only at hSw); go_simp; first | done | with_reducible rfl)
      try simp only [Act.put, List.setIfInBounds_toArray, List.set_cons_zero, List.set_cons_succ]
      refine any_take 1 (v := ?_) rfl rfl (by kernel_rfl) (by kernel_rfl) (by kernel_rfl) (fun _ _ _ h => h) hS0 ?_ ?_
      rotate_left
      · (intro w' hSw; (try dsimp only at hSw); go_simp; first | done | with_reducible rfl)
      try simp only [Act.put, List.setIfInBounds_toArray, List.set_cons_zero, List.set_cons_succ]
      refine any_take 2 (v := ?_) rfl rfl (by kernel_rfl) (by kernel_rfl) (by kernel_rfl) (fun _ _ _ h => h) hS0 ?_ ?_
      rotate_left
      · (intro w' hSw; (try dsimp only at hSw); go_simp; first | done | with_reducible rfl)
      try simp only [Act.put, List.setIfInBounds_toArray, List.set_cons_zero, List.set_cons_succ]
      refine any_take 3 (v := ?_) rfl rfl (by kernel_rfl) (by kernel_rfl) (by kernel_rfl) (fun _ _ _ h => h) hS0 ?_ ?_
      rotate_left
      · (intro w' hSw; (try dsimp only at hSw); go_simp; first | done | with_reducible rfl)
      try simp only [Act.put, List.setIfInBounds_toArray, List.set_cons_zero, List.set_cons_succ]
      refine any_take 4 (v := ?_) rfl rfl (by kernel_rfl) (by kernel_rfl) (by kernel_rfl) (fun _ _ _ h => h) hS0 ?_ ?_
      rotate_left
      · (intro w' hSw; (try dsimp only at hSw); go_simp; first | done | with_reducible rfl)
      try simp only [Act.put, List.setIfInBounds_toArray, List.set_cons_zero, List.set_cons_succ]
      refine any_take 5 (v := ?_) rfl rfl (by kernel_rfl) (by kernel_rfl) (by kernel_rfl) (fun _ _ _ h => h) hS0 ?_ ?_
      rotate_left
      · (intro w' hSw; (try dsimp only at hSw); go_simp; first | done | with_reducible rfl)
      try simp only [Act.put, List.setIfInBounds_toArray, List.set_cons_zero, List.set_cons_succ]
      refine any_take 6 (v := ?_) rfl rfl (by kernel_rfl) (by kernel_rfl) (by kernel_rfl) (fun _ _ _ h => h) hS0 ?_ ?_
      rotate_left
      · (intro w' hSw; (try dsimp only at hSw); go_simp; first | done | with_reducible rfl)
      try simp only [Act.put, List.setIfInBounds_toArray, List.set_cons_zero, List.set_cons_succ]
      refine any_take 7 (v := ?_) rfl rfl (by kernel_rfl) (by kernel_rfl) (by kernel_rfl) (fun _ _ _ h => h) hS0 ?_ ?_
      rotate_left
      · (intro w' hSw; (try dsimp only at hSw); go_simp; first | done | with_reducible rfl)
      try simp only [Act.put, List.setIfInBounds_toArray, List.set_cons_zero, List.set_cons_succ]
      refine any_take 8 (v := ?_) rfl rfl (by kernel_rfl) (by kernel_rfl) (by kernel_rfl) (fun _ _ _ h => h) hS0 ?_ ?_
      rotate_left
      · (intro w' hSw; (try dsimp only at hSw); go_simp; first | done | with_reducible rfl)
      try simp only [Act.put, List.setIfInBounds_toArray, List.set_cons_zero, List.set_cons_succ]
      refine any_take 9 (v := ?_) rfl rfl (by kernel_rfl) (by kernel_rfl) (by kernel_rfl) (fun _ _ _ h => h) hS0 ?_ ?_
      rotate_left
      · (intro w' hSw; (try dsimp only at hSw); go_simp; first | done | with_reducible rfl)
      try simp only [Act.put, List.setIfInBounds_toArray, List.set_cons_zero, List.set_cons_succ]
      refine any_take 10 (v := ?_) rfl rfl (by kernel_rfl) (by kernel_rfl) (by kernel_rfl) (fun _ _ _ h => h) hS0 ?_ ?_
      rotate_left
      · (intro w' hSw; (try dsimp only at hSw); go_simp; first | done | with_reducible rfl)
      try simp only [Act.put, List.setIfInBounds_toArray, List.set_cons_zero, List.set_cons_succ]
      refine any_take 11 (v := ?_) rfl rfl (by kernel_rfl) (by kernel_rfl) (by kernel_rfl) (fun _ _ _ h => h) hS0 ?_ ?_
      rotate_left
      · (intro w' hSw; (try dsimp only at hSw); go_simp; first | done | with_reducible rfl)
      try simp only [Act.put, List.setIfInBounds_toArray, List.set_cons_zero, List.set_cons_succ]
      refine any_take 12 (v := ?_) rfl rfl (by kernel_rfl) (by kernel_rfl) (by kernel_rfl) (fun _ _ _ h => h) hS0 ?_ ?_
      rotate_left
      · (intro w' hSw; (try dsimp only at hSw); go_simp; first | done | with_reducible rfl)
      try simp only [Act.put, List.setIfInBounds_toArray, List.set_cons_zero, List.set_cons_succ]
      refine any_take 13 (v := ?_) rfl rfl (by kernel_rfl) (by kernel_rfl) (by kernel_rfl) (fun _ _ _ h => h) hS0 ?_ ?_
      rotate_left
      · (intro w' hSw; (try dsimp only at hSw); go_simp; first | done | with_reducible rfl)
      try simp only [Act.put, List.setIfInBounds_toArray, List.set_cons_zero, List.set_cons_succ]
      refine any_take 14 (v := ?_) rfl rfl (by kernel_rfl) (by kernel_rfl) (by kernel_rfl) (fun _ _ _ h => h) hS0 ?_ ?_
      rotate_left
      · (intro w' hSw; (try dsimp only at hSw); go_simp; first | done | with_reducible rfl)
      try simp only [Act.put, List.setIfInBounds_toArray, List.set_cons_zero, List.set_cons_succ]
      refine any_take 15 (v := ?_) rfl rfl (by kernel_rfl) (by kernel_rfl) (by kernel_rfl) (fun _ _ _ h => h) hS0 ?_ ?_
      rotate_left
      · (intro w' hSw; (try dsimp only at hSw); go_simp; first | done | with_reducible rfl)
      try simp only [Act.put, List.setIfInBounds_toArray, List.set_cons_zero, List.set_cons_succ]
      refine any_take 16 (v := ?_) rfl rfl (by kernel_rfl) (by kernel_rfl) (by kernel_rfl) (fun _ _ _ h => h) hS0 ?_ ?_
      rotate_left
      · (intro w' hSw; (try dsimp only at hSw); go_simp; first | done | with_reducible rfl)
      try simp only [Act.put, List.setIfInBounds_toArray, List.set_cons_zero, List.set_cons_succ]
      refine any_take 17 (v := ?_) rfl rfl (by kernel_rfl) (by kernel_rfl) (by kernel_rfl) (fun _ _ _ h => h) hS0 ?_ ?_
      rotate_left
      · (intro w' hSw; (try dsimp only at hSw); go_simp; first | done | with_reducible rfl)
      try simp only [Act.put, List.setIfInBounds_toArray, List.set_cons_zero, List.set_cons_succ]
      refine any_take 18 (v := ?_) rfl rfl (by kernel_rfl) (by kernel_rfl) (by kernel_rfl) (fun _ _ _ h => h) hS0 ?_ ?_
      rotate_left
      · (intro w' hSw; (try dsimp only at hSw); go_simp; first | done | with_reducible rfl)
      try simp only [Act.put, List.setIfInBounds_toArray, List.set_cons_zero, List.set_cons_succ]
      refine any_take 19 (v := ?_) rfl rfl (by kernel_rfl) (by kernel_rfl) (by kernel_rfl) (fun _ _ _ h => h) hS0 ?_ ?_
      rotate_left
      · (intro w' hSw; (try dsimp only at hSw); go_simp; first | done | with_reducible rfl)
      try simp only [Act.put, List.setIfInBounds_toArray, List.set_cons_zero, List.set_cons_succ]
      refine any_take 20 (v := ?_) rfl rfl (by kernel_rfl) (by kernel_rfl) (by kernel_rfl) (fun _ _ _ h => h) hS0 ?_ ?_
      rotate_left
      · (intro w' hSw; (try dsimp only at hSw); go_simp; first | done | with_reducible rfl)
      try simp only [Act.put, List.setIfInBounds_toArray, List.set_cons_zero, List.set_cons_succ]
      refine any_take 21 (v := ?_) rfl rfl (by kernel_rfl) (by kernel_rfl) (by kernel_rfl) (fun _ _ _ h => h) hS0 ?_ ?_
      rotate_left
      · (intro w' hSw; (try dsimp only at hSw); go_simp; first | done | with_reducible rfl)
      try simp only [Act.put, List.setIfInBounds_toArray, List.set_cons_zero, List.set_cons_succ]
      refine any_one 22 (by kernel_rfl) rfl rfl (fun K1 hK1 => ?_)
      go_simp
      refine (QT'.out _).mono ?_
      rintro e w2 ⟨rfl, hb2⟩
      have bel2 := bel.drew.trans (hb2.mono hsz)
      have s2 := H0.out.keep bel2 hb
      have s2' := H1.out.keep bel2 hb'
      refine hK1 _ _ ⟨s2, s2'⟩ (fun hS1 => ?_)
      clear hK1 K1
      try simp only [Act.put, List.setIfInBounds_toArray, List.set_cons_zero, List.set_cons_succ]
      refine any_take 23 (v := ?_) rfl rfl (by kernel_rfl) (by kernel_rfl) (by kernel_rfl) (fun _ _ _ h => h) hS1 ?_ ?_
      rotate_left
      · (intro w' hSw; (try dsimp only at hSw); go_simp; first | done | with_reducible rfl)
      try simp only [Act.put, List.setIfInBounds_toArray, List.set_cons_zero, List.set_cons_succ]
      refine any_take 24 (v := ?_) rfl rfl (by kernel_rfl) (by kernel_rfl) (by kernel_rfl) (fun _ _ _ h => h) hS1 ?_ ?_
      rotate_left
      · (intro w' hSw; (try dsimp only at hSw); go_simp; first | done | with_reducible rfl)
      try simp only [Act.put, List.setIfInBounds_toArray, List.set_cons_zero, List.set_cons_succ]
      refine any_done (by kernel_rfl) (NoPanic.normal ?_)
      clear hS0 hS1 s2 s2' hb2
      go_wp2
      go_roundw
      case rel => exact ⟨k + 1, by omega, by go_num, bel2⟩
      case measure => simp [intOf]; omega
    · obtain rfl : k = l.length := by omega
      go_wp2
      go_ret
      exact ⟨rfl, bel⟩

end Go.Proofs.Ytehhgfkbcjbciaa
