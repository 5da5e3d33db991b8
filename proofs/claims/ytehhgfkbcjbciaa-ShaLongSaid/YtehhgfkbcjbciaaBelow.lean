/- stillroomref1.below. -/
import Derived.Test.YtehhgfkbcjbciaaTimes
import Derived.Deep.LoopGhost
namespace Go.Proofs.Ytehhgfkbcjbciaa
open Go.RowKit

theorem pow_le_dec (m n k : Nat) (X Y : List Nat) (hX : val X = m ^ k) (hY : val Y = n * 65536 ^ (2 * k)) (b : Bool) (hb : decide (val X ≤ val Y) = b) : decide (m ^ k ≤ n * 65536 ^ (2 * k)) = b := by rw [← hX, ← hY, hb]

theorem val_zero_cons (Y : List Nat) : val ([0] ++ Y) = 65536 * val Y := by simp [val]

/-- the answer -/
def Answer (w : World) (b : Bool) (e : Ending) (w' : World) : Prop := e = .returned (.bool b) ∧ Below w.heap.size w w'

set_option maxRecDepth 100000 in
set_option maxHeartbeats 4000000 in
theorem below_any (m n k : Nat) (w : World) (hm : m < 18446744073709551616) (hn : n < 18446744073709551616) (hk3 : k ≤ 3) :
    Calls Try.prog 72 #[.int .u64 (m : Int), .int .u64 (n : Int), .int .i64 (k : Int)] w (Answer w (decide (m ^ k ≤ n * 65536 ^ (2 * k)))) := by
  have HM := Lib.hid hm
  have HN := Lib.hid hn
  obtain ⟨r, hr⟩ : ∃ r, r = decide (m ^ k ≤ n * 65536 ^ (2 * k)) := ⟨_, rfl⟩
  rw [← hr]
  have HR := Lib.hid hr
  clear hm hn hr
  go_enter Try.func72, Try.ntmps72
  go_wp2_with fail
  refine (digits_any m w HM.out).mono ?_
  rintro e w1 ⟨vp, P, rfl, ownp, fp, sp, lp, b1⟩
  have hs1 := b1.size
  have OWNP := Lib.hid ownp
  have FP := Lib.hid fp
  have SP := Lib.hid sp
  have B1 := Lib.hid b1
  clear ownp fp sp b1
  go_wp2_with fail
  refine (digits_any 1 w1 (by omega)).mono ?_
  rintro e w2 ⟨vx, X, rfl, ownx, fx, sx, lx, b2⟩
  have ownp2 := OWNP.out.below b2
  have bel2 := B1.out.trans (b2.mono hs1)
  have hinv : Hid (Fine X ∧ val X = m ^ 0 ∧ X.length ≤ 4 + 5 * 0) := Lib.hid ⟨fx, by rw [sx]; rfl, by omega⟩
  have ownx2 : OwnI .u64 33 w2 w.heap.size vx X := ownx.base hs1
  clear ownx fx sx lx b2 OWNP B1
  go_wp2_with fail
  go_loopw [8, 9] (fun xv iv wr => ∃ (i : Nat) (X : List Nat), i ≤ k ∧ iv = .int .i64 i ∧ OwnI .u64 33 wr w.heap.size xv X ∧ OwnI .u64 33 wr w.heap.size vp P ∧ Hid (Fine X ∧ val X = m ^ i ∧ X.length ≤ 4 + 5 * i) ∧ Below w.heap.size w wr) (fun _ iv _ => k - (intOf iv).toNat)
  case atStart => exact ⟨0, X, by omega, rfl, ownx2, ownp2, hinv, bel2⟩
  case round =>
    clear ownx2 ownp2 hinv bel2
    obtain ⟨i, X, hi, rfl, ownx, ownp, hinv, bel⟩ := hrel
    have hsz := bel.size
    by_cases hlt : i < k
    · obtain ⟨Ax, nx, cx, rfl, hnx, _, _, rdx⟩ := ownx.slice'
      obtain ⟨Ap, np, cp, rfl, hnp, _, _, rdp⟩ := ownp.slice'
      have lnx : nx ≤ 100 := by rw [hnx.out]; have := hinv.out.2.2; omega
      have lnp : np ≤ 100 := by rw [hnp.out]; omega
      have OWNP := Lib.hid ownp
      have RDX := Lib.hid rdx
      have RDP := Lib.hid rdp
      have BEL := Lib.hid bel
      clear ownx ownp rdx rdp bel
      go_wp2_with fail
      refine (times_any Ax Ap nx np cx cp wr.heap.size X P wr hnx.out hnp.out RDX.out RDP.out (Nat.le_refl _) hinv.out.1 FP.out lnx lnp).mono ?_
      rintro e w3 ⟨v3, X3, rfl, own3, f3, s3, l3, b3⟩
      have ownp3 := OWNP.out.below b3
      have bel3 := BEL.out.trans (b3.mono hsz)
      have own3' : OwnI .u64 33 w3 w.heap.size v3 X3 := own3.base hsz
      have hinv3 : Hid (Fine X3 ∧ val X3 = m ^ (i + 1) ∧ X3.length ≤ 4 + 5 * (i + 1)) := Lib.hid ⟨f3, by rw [s3, hinv.out.2.1, SP.out, Nat.pow_succ], by rw [l3, hnx.out, hnp.out]; have := hinv.out.2.2; omega⟩
      clear own3 f3 s3 l3 b3
      go_wp2_with fail
      exact ⟨⟨i + 1, X3, by omega, by simp, own3', ownp3, hinv3, bel3⟩, by simp [intOf]; omega⟩
    · obtain rfl : k = i := by omega
      clear ownp
      have OWNX := Lib.hid ownx
      have BEL := Lib.hid bel
      clear ownx bel hlt hi
      go_wp2_with fail
      refine (digits_any n wr HN.out).mono ?_
      rintro e w4 ⟨vy, Y, rfl, owny, fy, sy, ly, b4⟩
      have ownx4 := OWNX.out.below b4
      have ap4 : Apart u8 vy := fun q h1 h2 => by have := (OWNX.out.lt q h1).2; have := (owny.lt q h2).1; omega
      have bel4 := BEL.out.trans (b4.mono hsz)
      have owny4 : OwnI .u64 33 w4 w.heap.size vy Y := owny.base hsz
      have hinvy : Hid (Fine Y ∧ val Y = n * 65536 ^ 0 ∧ Y.length ≤ 4 + 0) := Lib.hid ⟨fy, by rw [sy]; simp, by omega⟩
      have hinvx := hinv.out
      have HX := Lib.hid hinvx
      clear owny fy sy ly b4 OWNX BEL hinvx hinv
      go_wp2_with fail
      obtain ⟨wo, rfl⟩ : ∃ wo : World, wo = wr := ⟨_, rfl⟩
      go_loopw [10, 11] (fun yv iv wr => ∃ (i : Nat) (Y : List Nat), i ≤ 2 * k ∧ iv = .int .i64 i ∧ OwnI .u64 33 wr w.heap.size yv Y ∧ OwnI .u64 33 wr w.heap.size u8 X ∧ Apart u8 yv ∧ Hid (Fine Y ∧ val Y = n * 65536 ^ i ∧ Y.length ≤ 4 + i) ∧ Below w.heap.size w wr) (fun _ iv _ => 2 * k - (intOf iv).toNat)
      case atStart => exact ⟨0, Y, by omega, rfl, owny4, ownx4, ap4, hinvy, bel4⟩
      case round =>
        clear owny4 ownx4 hinvy bel4 ap4
        obtain ⟨i, Y, hi, rfl, owny, ownx, ap, hinv, bel⟩ := hrel
        have hsz := bel.size
        by_cases hlt : i < 2 * k
        · obtain ⟨Ay, ny, cy, rfl, hny, _, _, rdy⟩ := owny.slice'
          have hlI : (i : Int) < 2 * (k : Int) := by omega
          have hlen : ([0] : List Nat).length + Y.length ≤ 1000000 := by have := hinv.out.2.2; simp; omega
          have OWNX := Lib.hid ownx
          have RDY := Lib.hid rdy
          have BEL := Lib.hid bel
          have HLEN := Lib.hid hlen
          have own0 : OwnI .u64 33 (wr.alloc (.cells #[.int .u64 0] 33)) wr.heap.size (.slice (some ⟨wr.heap.size, 0, none⟩) 1 1) [0] := OwnI.of_blk (l := [0]) (Blk.new wr 33 #[.int .u64 0]) (Nat.le_refl _) (by unfold maxLen; simp)
          have OWN0 := Lib.hid own0
          have hinv2 : Hid (Fine ([0] ++ Y) ∧ val ([0] ++ Y) = n * 65536 ^ (i + 1) ∧ ([0] ++ Y).length ≤ 4 + (i + 1)) := Lib.hid ⟨(Fine.one (by omega)).append hinv.out.1, by rw [val_zero_cons, hinv.out.2.1, Nat.pow_succ, Nat.mul_left_comm, Nat.mul_comm 65536 (65536 ^ i)], by have := hinv.out.2.2; simp; omega⟩
          clear owny ownx rdy bel hlen own0 hinv ap
          go_wp2_with (at_builtin; refine wpList_append_int numU rfl (.tmp 32) (.tmp 33) rfl wr.heap.size (.slice (some ⟨wr.heap.size, 0, none⟩) 1 1) [0] rfl OWN0.out wr.heap.size Ay ny cy Y rfl hny.out (RDY.out.below ((Below.refl wr.heap.size wr).alloc (Nat.le_refl _) _)) HLEN.out (by simp) ?_; intro v5 w5 own5 g5 _; replace own5 := Lib.hid own5; replace g5 := Lib.hid g5)
          have g5' : (wr.alloc (.cells #[.int .u64 0] 33)).grownBy w5 (some wr.heap.size) := g5.out
          have ownx5 := (OWNX.out.alloc (.cells #[.int .u64 0] 33)).kept g5' (by
            cases hb : Value.ownBlock _ with
            | none => exact .inl rfl
            | some q => exact .inr (fun e => by have h1 := (OWNX.out.lt q hb).2; injection e with e; omega))
          have bel5 : Below w.heap.size w w5 := (BEL.out.alloc hsz _).grown g5' (by simp; omega) (fun k hk => by injection hk with e; omega)
          have ap5 : Apart u8 v5 := fun q h1 h2 => by have := (OWNX.out.lt q h1).2; have := (own5.out.lt q h2).1; omega
          exact ⟨⟨i + 1, _, by omega, by simp, own5.out.base hsz, ownx5, ap5, hinv2, bel5⟩, by simp [intOf]; omega⟩
        · obtain rfl : i = 2 * k := by omega
          obtain ⟨Ay, ny, cy, rfl, hny, _, _, rdy⟩ := owny.slice'
          have hX := HX.out
          have HY := Lib.hid hinv.out
          have hXl : X.length ≤ 40 := by omega
          have hnyl : ny ≤ 40 := by rw [hny.out]; have := hinv.out.2.2; omega
          have hinvX : Hid (Fine X ∧ val X = m ^ k ∧ X.length ≤ 40) := Lib.hid ⟨hX.1, hX.2.1, hXl⟩
          clear HX hX hXl hlt hi rdy hinv
          go_wp2_with fail
          obtain ⟨wo2, rfl⟩ : ∃ wo2 : World, wo2 = wr := ⟨_, rfl⟩
          go_loopg [8] (ny - X.length) (fun q xv wr => ∃ X : List Nat, OwnI .u64 33 wr w.heap.size xv X ∧ OwnI .u64 33 wr w.heap.size (.slice Ay ny cy) Y ∧ Apart xv (.slice Ay ny cy) ∧ Hid (Fine X ∧ val X = m ^ k ∧ X.length ≤ 40 ∧ ny - X.length = q) ∧ Below w.heap.size w wr)
          case atStart => exact ⟨X, ownx, owny, ap, Lib.hid ⟨hinvX.out.1, hinvX.out.2.1, hinvX.out.2.2, rfl⟩, bel⟩
          case round =>
            clear ownx owny ap hinvX bel
            obtain ⟨X, ownx, owny, ap, hinv, bel⟩ := hrel
            have hsz := bel.size
            obtain ⟨Ax, nx, cx, rfl, hnx, _, _, rdx⟩ := ownx.slice'
            have hnxl : nx ≤ 40 := by rw [hnx.out]; exact hinv.out.2.2.1
            by_cases hlt : nx < ny
            · have hlen : X.length + ([0] : List Nat).length ≤ 1000000 := by rw [← hnx.out]; simp; omega
              have HLEN := Lib.hid hlen
              have OWNX := Lib.hid ownx
              have OWNY := Lib.hid owny
              have AP := Lib.hid ap
              have BEL := Lib.hid bel
              have hq : 0 < gk ∧ ny - (nx + 1) = gk - 1 := by have := hinv.out.2.2.2; rw [← hnx.out] at this; omega
              have HQ := Lib.hid hq
              clear hlen ownx owny ap bel rdx hq
              go_wp2_with (at_builtin; refine wpList_append_int numU rfl (.tmp 40) (.tmp 41) rfl w.heap.size (.slice Ax nx cx) X rfl (OWNX.out.alloc _) (wr.heap.size + 1) (some ⟨wr.heap.size, 0, none⟩) 1 1 [0] rfl rfl (Rd.new wr _ _ _) HLEN.out (by simp; omega) ?_; intro v5 w5 own5 g5 la5; replace own5 := Lib.hid own5; replace g5 := Lib.hid g5; replace la5 := Lib.hid la5)
              have owny5 := (OWNY.out.alloc (.cells #[.int .u64 0] 33)).kept g5.out AP.out.kept
              have ap5 := AP.out.later la5.out (fun q hq => by have := (OWNY.out.lt q hq).2; simp; omega)
              have bel5 : Below w.heap.size w w5 := (BEL.out.alloc hsz _).grown g5.out (by simp; omega) (fun k hk => (OWNX.out.lt k hk).1)
              go_roundg (gk - 1)
              case measure => have := HQ.out.1; omega
              case rel => exact ⟨X ++ [0], own5.out, owny5, ap5, Lib.hid ⟨hinv.out.1.append (Fine.one (by omega)), by rw [val_append, hinv.out.2.1]; simp [val], by rw [List.length_append, ← hnx.out]; simp; omega, by rw [List.length_append, ← hnx.out]; exact HQ.out.2⟩, bel5⟩
            · have HX := Lib.hid hinv.out
              have hinvY : Hid (Fine Y ∧ val Y = n * 65536 ^ (2 * k) ∧ Y.length = ny) := Lib.hid ⟨HY.out.1, HY.out.2.1, hny.out.symm⟩
              have hd : decide (nx < ny) = false := decide_eq_false hlt
              have hge : ny ≤ nx := by omega
              clear hinv rdx hlt HY hny
              go_wp2_with fail
              obtain ⟨wo3, rfl⟩ : ∃ wo3 : World, wo3 = wr := ⟨_, rfl⟩
              go_loopg [10] (nx - ny) (fun q yv wr => ∃ Y : List Nat, OwnI .u64 33 wr w.heap.size (.slice Ax nx cx) X ∧ OwnI .u64 33 wr w.heap.size yv Y ∧ Apart (.slice Ax nx cx) yv ∧ Hid (Fine Y ∧ val Y = n * 65536 ^ (2 * k) ∧ Y.length ≤ 40 ∧ nx - Y.length = q ∧ Y.length ≤ nx) ∧ Below w.heap.size w wr)
              case atStart => exact ⟨Y, ownx, owny, ap, Lib.hid ⟨hinvY.out.1, hinvY.out.2.1, by rw [hinvY.out.2.2]; exact hnyl, by rw [hinvY.out.2.2], by rw [hinvY.out.2.2]; exact hge⟩, bel⟩
              case round =>
                clear ownx owny ap hinvY bel
                obtain ⟨Y, ownx, owny, ap, hinv, bel⟩ := hrel
                have hsz := bel.size
                obtain ⟨Ay, ny, cy, rfl, hny, _, _, rdy⟩ := owny.slice'
                have hnyl : ny ≤ 40 := by rw [hny.out]; exact hinv.out.2.2.1
                by_cases hlt : ny < nx
                · have hlen : Y.length + ([0] : List Nat).length ≤ 1000000 := by rw [← hny.out]; simp; omega
                  have HLEN := Lib.hid hlen
                  have OWNX := Lib.hid ownx
                  have OWNY := Lib.hid owny
                  have AP := Lib.hid ap
                  have BEL := Lib.hid bel
                  have hq : 0 < gk ∧ nx - (ny + 1) = gk - 1 := by have := hinv.out.2.2.2.1; rw [← hny.out] at this; omega
                  have HQ := Lib.hid hq
                  clear hlen ownx owny ap bel rdy hq
                  go_wp2_with (at_builtin; refine wpList_append_int numU rfl (.tmp 48) (.tmp 49) rfl w.heap.size (.slice Ay ny cy) Y rfl (OWNY.out.alloc _) (wr.heap.size + 1) (some ⟨wr.heap.size, 0, none⟩) 1 1 [0] rfl rfl (Rd.new wr _ _ _) HLEN.out (by simp; omega) ?_; intro v5 w5 own5 g5 la5; replace own5 := Lib.hid own5; replace g5 := Lib.hid g5; replace la5 := Lib.hid la5)
                  have ownx5 := (OWNX.out.alloc (.cells #[.int .u64 0] 33)).kept g5.out AP.out.symm.kept
                  have ap5 := (AP.out.symm.later la5.out (fun q hq => by have := (OWNX.out.lt q hq).2; simp; omega)).symm
                  have bel5 : Below w.heap.size w w5 := (BEL.out.alloc hsz _).grown g5.out (by simp; omega) (fun k hk => (OWNY.out.lt k hk).1)
                  go_roundg (gk - 1)
                  case measure => have := HQ.out.1; omega
                  case rel => exact ⟨Y ++ [0], ownx5, own5.out, ap5, Lib.hid ⟨hinv.out.1.append (Fine.one (by omega)), by rw [val_append, hinv.out.2.1]; simp [val], by rw [List.length_append, ← hny.out]; simp; omega, by rw [List.length_append, ← hny.out]; exact HQ.out.2, by rw [List.length_append, ← hny.out]; simp; omega⟩, bel5⟩
                · have hxy : ny = nx := by rw [hny.out] at hlt ⊢; have := hinv.out.2.2.2.2; omega
                  subst hxy
                  have HY := Lib.hid hinv.out
                  have rdx := ownx.rd
                  clear hinv hlt ap ownx owny
                  have hr1 : val X ≤ val Y → r = true := fun h => by rw [HR.out, ← HX.out.2.1, ← HY.out.2.1, decide_eq_true h]
                  have hr2 : val Y < val X → r = false := fun h => by rw [HR.out, ← HX.out.2.1, ← HY.out.2.1, decide_eq_false (by omega)]
                  have HR1 := Lib.hid hr1
                  have HR2 := Lib.hid hr2
                  clear hr1 hr2
                  go_wp2_with fail
                  obtain ⟨D5, hD5⟩ : ∃ D5, D5 = wr.heap.size := ⟨_, rfl⟩
                  rw [← hD5] at rdx rdy
                  clear hD5
                  go_loopw [12] (fun iv wr => ∃ i : Nat, i ≤ ny ∧ iv = .int .i64 ((i : Int) - 1) ∧ Hid (X.drop i = Y.drop i) ∧ RdI .u64 wr D5 Ax X ∧ RdI .u64 wr D5 Ay Y ∧ Below w.heap.size w wr) (fun iv _ => (intOf iv + 1).toNat)
                  case atStart => exact ⟨ny, by omega, rfl, Lib.hid (by rw [List.drop_of_length_le (by rw [← hnx.out]; exact Nat.le_refl _), List.drop_of_length_le (by rw [← hny.out]; exact Nat.le_refl _)]), rdx, rdy, bel⟩
                  case round =>
                    clear rdx rdy bel
                    obtain ⟨i, hi, rfl, hd, rdx, rdy, bel⟩ := hrel
                    cases i with
                    | zero =>
                      have hxy : X = Y := by have := hd.out; simpa using this
                      have hres := HR1.out (by rw [hxy]; exact Nat.le_refl _)
                      have HRES := Lib.hid hres
                      clear hxy hres
                      go_wp2_with fail
                      go_ret
                      exact ⟨by rw [HRES.out]; rfl, bel⟩
                    | succ t =>
                      rw [show (((t + 1 : Nat) : Int) - 1) = (t : Int) from by omega]
                      have htX : t < X.length := by rw [← hnx.out]; omega
                      have htY : t < Y.length := by rw [← hny.out]; omega
                      obtain ⟨bx, ox, rfl, _, hcx⟩ := rdx.at' htX
                      obtain ⟨by', oy, rfl, _, hcy⟩ := rdy.at' htY
                      have hcl := Lib.hid (cmp_top X Y (by rw [← hnx.out, ← hny.out]) HX.out.1 t htX hd.out)
                      have hcl2 := Lib.hid (cmp_top Y X (by rw [← hnx.out, ← hny.out]) HY.out.1 t htY hd.out.symm)
                      have hnext := Lib.hid (drop_next X Y t htX htY hd.out)
                      have htI : (t : Int) < (ny : Int) := by omega
                      obtain ⟨x, hx⟩ : ∃ x, x = X.getD t 0 := ⟨_, rfl⟩
                      obtain ⟨y, hy⟩ : ∃ y, y = Y.getD t 0 := ⟨_, rfl⟩
                      rw [← hx] at hcx
                      rw [← hy] at hcy
                      have HXX := Lib.hid hx
                      have HYY := Lib.hid hy
                      have RX := Lib.hid rdx
                      have RY := Lib.hid rdy
                      clear hx hy htX htY rdx rdy
                      rcases Nat.lt_trichotomy x y with hlt | heq | hlt
                      · have hres := Lib.hid (HR1.out (Nat.le_of_lt (hcl.out (by rw [← HXX.out, ← HYY.out]; exact hlt))))
                        have q1 : ((x : Int) == (y : Int)) = false := by rw [beq_eq_false_iff_ne]; omega
                        have q2 : ((x : Int) != (y : Int)) = true := by rw [bne, q1]; rfl
                        have q3 : ¬ (x = y) := by omega
                        have q4 : (x : Int) < (y : Int) := by omega
                        go_wp2_with fail
                        refine any_begin (fun w' => w'.cell? ⟨bx, ox + t, none⟩ = some (.int .u64 (x : Nat)) ∧ w'.cell? ⟨by', oy + t, none⟩ = some (.int .u64 (y : Nat))) (by kernel_rfl) ⟨hcx, hcy⟩ (fun hS0 => ?_)
                        refine any_take 0 (v := ?_) rfl rfl (by kernel_rfl) (by kernel_rfl) (by kernel_rfl) (fun _ _ _ h => h) hS0 ?_ ?_
                        rotate_left
                        · (intro w' hSw; (try dsimp only at hSw); go_simp; first | done | with_reducible rfl)
                        try simp only [Act.put, List.setIfInBounds_toArray, List.set_cons_zero, List.set_cons_succ]
                        refine any_take 1 (v := ?_) rfl rfl (by kernel_rfl) (by kernel_rfl) (by kernel_rfl) (fun _ _ _ h => h) hS0 ?_ ?_
                        rotate_left
                        · (intro w' hSw; (try dsimp only at hSw); go_simp; first | done | with_reducible rfl)
                        try simp only [Act.put, List.setIfInBounds_toArray, List.set_cons_zero, List.set_cons_succ]
                        refine any_take 2 (v := ?_) rfl rfl (by kernel_rfl) (by kernel_rfl) (by kernel_rfl) (fun _ _ _ h => h) hS0 ?_ ?_
                        rotate_left
                        · (intro w' hSw; (try dsimp only at hSw); go_simp; first | done | with_reducible rfl)
                        try simp only [Act.put, List.setIfInBounds_toArray, List.set_cons_zero, List.set_cons_succ]
                        refine any_take 3 (v := ?_) rfl rfl (by kernel_rfl) (by kernel_rfl) (by kernel_rfl) (fun _ _ _ h => h) hS0 ?_ ?_
                        rotate_left
                        · (intro w' hSw; (try dsimp only at hSw); go_simp; first | done | with_reducible rfl)
                        try simp only [Act.put, List.setIfInBounds_toArray, List.set_cons_zero, List.set_cons_succ]
                        refine any_take 4 (v := ?_) rfl rfl (by kernel_rfl) (by kernel_rfl) (by kernel_rfl) (fun _ _ _ h => h) hS0 ?_ ?_
                        rotate_left
                        · (intro w' hSw; (try dsimp only at hSw); go_simp; first | done | with_reducible rfl)
                        try simp only [Act.put, List.setIfInBounds_toArray, List.set_cons_zero, List.set_cons_succ]
                        refine any_take 5 (v := ?_) rfl rfl (by kernel_rfl) (by kernel_rfl) (by kernel_rfl) (fun _ _ _ h => h) hS0 ?_ ?_
                        rotate_left
                        · (intro w' hSw; (try dsimp only at hSw); go_simp; first | done | with_reducible rfl)
                        try simp only [Act.put, List.setIfInBounds_toArray, List.set_cons_zero, List.set_cons_succ]
                        refine any_take 6 (v := ?_) rfl rfl (by kernel_rfl) (by kernel_rfl) (by kernel_rfl) (fun _ _ _ h => h) hS0 ?_ ?_
                        rotate_left
                        · (intro w' hSw; (try dsimp only at hSw); go_simp; first | done | with_reducible rfl)
                        try simp only [Act.put, List.setIfInBounds_toArray, List.set_cons_zero, List.set_cons_succ]
                        refine any_take 7 (v := ?_) rfl rfl (by kernel_rfl) (by kernel_rfl) (by kernel_rfl) (fun _ _ _ h => h) hS0 ?_ ?_
                        rotate_left
                        · (intro w' hSw; (try dsimp only at hSw); go_simp; first | done | with_reducible rfl)
                        try simp only [Act.put, List.setIfInBounds_toArray, List.set_cons_zero, List.set_cons_succ]
                        refine any_take 8 (v := ?_) rfl rfl (by kernel_rfl) (by kernel_rfl) (by kernel_rfl) (fun _ _ _ h => h) hS0 ?_ ?_
                        rotate_left
                        · (intro w' hSw; (try dsimp only at hSw); go_simp; first | done | with_reducible rfl)
                        try simp only [Act.put, List.setIfInBounds_toArray, List.set_cons_zero, List.set_cons_succ]
                        refine any_done (by kernel_rfl) (NoPanic.normal ?_)
                        clear hS0
                        go_wp2_with fail
                        refine any_begin (fun w' => w'.cell? ⟨bx, ox + t, none⟩ = some (.int .u64 (x : Nat)) ∧ w'.cell? ⟨by', oy + t, none⟩ = some (.int .u64 (y : Nat))) (by kernel_rfl) ⟨hcx, hcy⟩ (fun hS0 => ?_)
                        refine any_take 0 (v := ?_) rfl rfl (by kernel_rfl) (by kernel_rfl) (by kernel_rfl) (fun _ _ _ h => h) hS0 ?_ ?_
                        rotate_left
                        · (intro w' hSw; (try dsimp only at hSw); go_simp; first | done | with_reducible rfl)
                        try simp only [Act.put, List.setIfInBounds_toArray, List.set_cons_zero, List.set_cons_succ]
                        refine any_take 1 (v := ?_) rfl rfl (by kernel_rfl) (by kernel_rfl) (by kernel_rfl) (fun _ _ _ h => h) hS0 ?_ ?_
                        rotate_left
                        · (intro w' hSw; (try dsimp only at hSw); go_simp; first | done | with_reducible rfl)
                        try simp only [Act.put, List.setIfInBounds_toArray, List.set_cons_zero, List.set_cons_succ]
                        refine any_take 2 (v := ?_) rfl rfl (by kernel_rfl) (by kernel_rfl) (by kernel_rfl) (fun _ _ _ h => h) hS0 ?_ ?_
                        rotate_left
                        · (intro w' hSw; (try dsimp only at hSw); go_simp; first | done | with_reducible rfl)
                        try simp only [Act.put, List.setIfInBounds_toArray, List.set_cons_zero, List.set_cons_succ]
                        refine any_take 3 (v := ?_) rfl rfl (by kernel_rfl) (by kernel_rfl) (by kernel_rfl) (fun _ _ _ h => h) hS0 ?_ ?_
                        rotate_left
                        · (intro w' hSw; (try dsimp only at hSw); go_simp; first | done | with_reducible rfl)
                        try simp only [Act.put, List.setIfInBounds_toArray, List.set_cons_zero, List.set_cons_succ]
                        refine any_take 4 (v := ?_) rfl rfl (by kernel_rfl) (by kernel_rfl) (by kernel_rfl) (fun _ _ _ h => h) hS0 ?_ ?_
                        rotate_left
                        · (intro w' hSw; (try dsimp only at hSw); go_simp; first | done | with_reducible rfl)
                        try simp only [Act.put, List.setIfInBounds_toArray, List.set_cons_zero, List.set_cons_succ]
                        refine any_take 5 (v := ?_) rfl rfl (by kernel_rfl) (by kernel_rfl) (by kernel_rfl) (fun _ _ _ h => h) hS0 ?_ ?_
                        rotate_left
                        · (intro w' hSw; (try dsimp only at hSw); go_simp; first | done | with_reducible rfl)
                        try simp only [Act.put, List.setIfInBounds_toArray, List.set_cons_zero, List.set_cons_succ]
                        refine any_take 6 (v := ?_) rfl rfl (by kernel_rfl) (by kernel_rfl) (by kernel_rfl) (fun _ _ _ h => h) hS0 ?_ ?_
                        rotate_left
                        · (intro w' hSw; (try dsimp only at hSw); go_simp; first | done | with_reducible rfl)
                        try simp only [Act.put, List.setIfInBounds_toArray, List.set_cons_zero, List.set_cons_succ]
                        refine any_take 7 (v := ?_) rfl rfl (by kernel_rfl) (by kernel_rfl) (by kernel_rfl) (fun _ _ _ h => h) hS0 ?_ ?_
                        rotate_left
                        · (intro w' hSw; (try dsimp only at hSw); go_simp; first | done | with_reducible rfl)
                        try simp only [Act.put, List.setIfInBounds_toArray, List.set_cons_zero, List.set_cons_succ]
                        refine any_take 8 (v := ?_) rfl rfl (by kernel_rfl) (by kernel_rfl) (by kernel_rfl) (fun _ _ _ h => h) hS0 ?_ ?_
                        rotate_left
                        · (intro w' hSw; (try dsimp only at hSw); go_simp; first | done | with_reducible rfl)
                        try simp only [Act.put, List.setIfInBounds_toArray, List.set_cons_zero, List.set_cons_succ]
                        refine any_take 9 (v := ?_) rfl rfl (by kernel_rfl) (by kernel_rfl) (by kernel_rfl) (fun _ _ _ h => h) hS0 ?_ ?_
                        rotate_left
                        · (intro w' hSw; (try dsimp only at hSw); go_simp; first | done | with_reducible rfl)
                        try simp only [Act.put, List.setIfInBounds_toArray, List.set_cons_zero, List.set_cons_succ]
                        refine any_done (by kernel_rfl) (NoPanic.normal ?_)
                        clear hS0
                        go_wp2_with fail
                        go_ret
                        exact ⟨by rw [hres.out]; simp, bel.drew.drew⟩
                      · subst heq
                        have hdn := Lib.hid (hnext.out (by rw [← HXX.out, ← HYY.out]))
                        go_wp2_with fail
                        refine any_begin (fun w' => w'.cell? ⟨bx, ox + t, none⟩ = some (.int .u64 (x : Nat)) ∧ w'.cell? ⟨by', oy + t, none⟩ = some (.int .u64 (x : Nat))) (by kernel_rfl) ⟨hcx, hcy⟩ (fun hS0 => ?_)
                        refine any_take 0 (v := ?_) rfl rfl (by kernel_rfl) (by kernel_rfl) (by kernel_rfl) (fun _ _ _ h => h) hS0 ?_ ?_
                        rotate_left
                        · (intro w' hSw; (try dsimp only at hSw); go_simp; first | done | with_reducible rfl)
                        try simp only [Act.put, List.setIfInBounds_toArray, List.set_cons_zero, List.set_cons_succ]
                        refine any_take 1 (v := ?_) rfl rfl (by kernel_rfl) (by kernel_rfl) (by kernel_rfl) (fun _ _ _ h => h) hS0 ?_ ?_
                        rotate_left
                        · (intro w' hSw; (try dsimp only at hSw); go_simp; first | done | with_reducible rfl)
                        try simp only [Act.put, List.setIfInBounds_toArray, List.set_cons_zero, List.set_cons_succ]
                        refine any_take 2 (v := ?_) rfl rfl (by kernel_rfl) (by kernel_rfl) (by kernel_rfl) (fun _ _ _ h => h) hS0 ?_ ?_
                        rotate_left
                        · (intro w' hSw; (try dsimp only at hSw); go_simp; first | done | with_reducible rfl)
                        try simp only [Act.put, List.setIfInBounds_toArray, List.set_cons_zero, List.set_cons_succ]
                        refine any_take 3 (v := ?_) rfl rfl (by kernel_rfl) (by kernel_rfl) (by kernel_rfl) (fun _ _ _ h => h) hS0 ?_ ?_
                        rotate_left
                        · (intro w' hSw; (try dsimp only at hSw); go_simp; first | done | with_reducible rfl)
                        try simp only [Act.put, List.setIfInBounds_toArray, List.set_cons_zero, List.set_cons_succ]
                        refine any_take 4 (v := ?_) rfl rfl (by kernel_rfl) (by kernel_rfl) (by kernel_rfl) (fun _ _ _ h => h) hS0 ?_ ?_
                        rotate_left
                        · (intro w' hSw; (try dsimp only at hSw); go_simp; first | done | with_reducible rfl)
                        try simp only [Act.put, List.setIfInBounds_toArray, List.set_cons_zero, List.set_cons_succ]
                        refine any_take 5 (v := ?_) rfl rfl (by kernel_rfl) (by kernel_rfl) (by kernel_rfl) (fun _ _ _ h => h) hS0 ?_ ?_
                        rotate_left
                        · (intro w' hSw; (try dsimp only at hSw); go_simp; first | done | with_reducible rfl)
                        try simp only [Act.put, List.setIfInBounds_toArray, List.set_cons_zero, List.set_cons_succ]
                        refine any_take 6 (v := ?_) rfl rfl (by kernel_rfl) (by kernel_rfl) (by kernel_rfl) (fun _ _ _ h => h) hS0 ?_ ?_
                        rotate_left
                        · (intro w' hSw; (try dsimp only at hSw); go_simp; first | done | with_reducible rfl)
                        try simp only [Act.put, List.setIfInBounds_toArray, List.set_cons_zero, List.set_cons_succ]
                        refine any_take 7 (v := ?_) rfl rfl (by kernel_rfl) (by kernel_rfl) (by kernel_rfl) (fun _ _ _ h => h) hS0 ?_ ?_
                        rotate_left
                        · (intro w' hSw; (try dsimp only at hSw); go_simp; first | done | with_reducible rfl)
                        try simp only [Act.put, List.setIfInBounds_toArray, List.set_cons_zero, List.set_cons_succ]
                        refine any_take 8 (v := ?_) rfl rfl (by kernel_rfl) (by kernel_rfl) (by kernel_rfl) (fun _ _ _ h => h) hS0 ?_ ?_
                        rotate_left
                        · (intro w' hSw; (try dsimp only at hSw); go_simp; first | done | with_reducible rfl)
                        try simp only [Act.put, List.setIfInBounds_toArray, List.set_cons_zero, List.set_cons_succ]
                        refine any_done (by kernel_rfl) (NoPanic.normal ?_)
                        clear hS0
                        go_wp2_with fail
                        exact ⟨⟨t, by omega, rfl, hdn, RX.out, RY.out, bel.drew⟩, by simp [intOf]⟩
                      · have hres := Lib.hid (HR2.out (hcl2.out (by rw [← HXX.out, ← HYY.out]; exact hlt)))
                        have q1 : ((x : Int) == (y : Int)) = false := by rw [beq_eq_false_iff_ne]; omega
                        have q2 : ((x : Int) != (y : Int)) = true := by rw [bne, q1]; rfl
                        have q3 : ¬ (x = y) := by omega
                        have q4 : ¬ (x : Int) < (y : Int) := by omega
                        have q5 : ¬ x < y := by omega
                        go_wp2_with fail
                        refine any_begin (fun w' => w'.cell? ⟨bx, ox + t, none⟩ = some (.int .u64 (x : Nat)) ∧ w'.cell? ⟨by', oy + t, none⟩ = some (.int .u64 (y : Nat))) (by kernel_rfl) ⟨hcx, hcy⟩ (fun hS0 => ?_)
                        refine any_take 0 (v := ?_) rfl rfl (by kernel_rfl) (by kernel_rfl) (by kernel_rfl) (fun _ _ _ h => h) hS0 ?_ ?_
                        rotate_left
                        · (intro w' hSw; (try dsimp only at hSw); go_simp; first | done | with_reducible rfl)
                        try simp only [Act.put, List.setIfInBounds_toArray, List.set_cons_zero, List.set_cons_succ]
                        refine any_take 1 (v := ?_) rfl rfl (by kernel_rfl) (by kernel_rfl) (by kernel_rfl) (fun _ _ _ h => h) hS0 ?_ ?_
                        rotate_left
                        · (intro w' hSw; (try dsimp only at hSw); go_simp; first | done | with_reducible rfl)
                        try simp only [Act.put, List.setIfInBounds_toArray, List.set_cons_zero, List.set_cons_succ]
                        refine any_take 2 (v := ?_) rfl rfl (by kernel_rfl) (by kernel_rfl) (by kernel_rfl) (fun _ _ _ h => h) hS0 ?_ ?_
                        rotate_left
                        · (intro w' hSw; (try dsimp only at hSw); go_simp; first | done | with_reducible rfl)
                        try simp only [Act.put, List.setIfInBounds_toArray, List.set_cons_zero, List.set_cons_succ]
                        refine any_take 3 (v := ?_) rfl rfl (by kernel_rfl) (by kernel_rfl) (by kernel_rfl) (fun _ _ _ h => h) hS0 ?_ ?_
                        rotate_left
                        · (intro w' hSw; (try dsimp only at hSw); go_simp; first | done | with_reducible rfl)
                        try simp only [Act.put, List.setIfInBounds_toArray, List.set_cons_zero, List.set_cons_succ]
                        refine any_take 4 (v := ?_) rfl rfl (by kernel_rfl) (by kernel_rfl) (by kernel_rfl) (fun _ _ _ h => h) hS0 ?_ ?_
                        rotate_left
                        · (intro w' hSw; (try dsimp only at hSw); go_simp; first | done | with_reducible rfl)
                        try simp only [Act.put, List.setIfInBounds_toArray, List.set_cons_zero, List.set_cons_succ]
                        refine any_take 5 (v := ?_) rfl rfl (by kernel_rfl) (by kernel_rfl) (by kernel_rfl) (fun _ _ _ h => h) hS0 ?_ ?_
                        rotate_left
                        · (intro w' hSw; (try dsimp only at hSw); go_simp; first | done | with_reducible rfl)
                        try simp only [Act.put, List.setIfInBounds_toArray, List.set_cons_zero, List.set_cons_succ]
                        refine any_take 6 (v := ?_) rfl rfl (by kernel_rfl) (by kernel_rfl) (by kernel_rfl) (fun _ _ _ h => h) hS0 ?_ ?_
                        rotate_left
                        · (intro w' hSw; (try dsimp only at hSw); go_simp; first | done | with_reducible rfl)
                        try simp only [Act.put, List.setIfInBounds_toArray, List.set_cons_zero, List.set_cons_succ]
                        refine any_take 7 (v := ?_) rfl rfl (by kernel_rfl) (by kernel_rfl) (by kernel_rfl) (fun _ _ _ h => h) hS0 ?_ ?_
                        rotate_left
                        · (intro w' hSw; (try dsimp only at hSw); go_simp; first | done | with_reducible rfl)
                        try simp only [Act.put, List.setIfInBounds_toArray, List.set_cons_zero, List.set_cons_succ]
                        refine any_take 8 (v := ?_) rfl rfl (by kernel_rfl) (by kernel_rfl) (by kernel_rfl) (fun _ _ _ h => h) hS0 ?_ ?_
                        rotate_left
                        · (intro w' hSw; (try dsimp only at hSw); go_simp; first | done | with_reducible rfl)
                        try simp only [Act.put, List.setIfInBounds_toArray, List.set_cons_zero, List.set_cons_succ]
                        refine any_done (by kernel_rfl) (NoPanic.normal ?_)
                        clear hS0
                        go_wp2_with fail
                        refine any_begin (fun w' => w'.cell? ⟨bx, ox + t, none⟩ = some (.int .u64 (x : Nat)) ∧ w'.cell? ⟨by', oy + t, none⟩ = some (.int .u64 (y : Nat))) (by kernel_rfl) ⟨hcx, hcy⟩ (fun hS0 => ?_)
                        refine any_take 0 (v := ?_) rfl rfl (by kernel_rfl) (by kernel_rfl) (by kernel_rfl) (fun _ _ _ h => h) hS0 ?_ ?_
                        rotate_left
                        · (intro w' hSw; (try dsimp only at hSw); go_simp; first | done | with_reducible rfl)
                        try simp only [Act.put, List.setIfInBounds_toArray, List.set_cons_zero, List.set_cons_succ]
                        refine any_take 1 (v := ?_) rfl rfl (by kernel_rfl) (by kernel_rfl) (by kernel_rfl) (fun _ _ _ h => h) hS0 ?_ ?_
                        rotate_left
                        · (intro w' hSw; (try dsimp only at hSw); go_simp; first | done | with_reducible rfl)
                        try simp only [Act.put, List.setIfInBounds_toArray, List.set_cons_zero, List.set_cons_succ]
                        refine any_take 2 (v := ?_) rfl rfl (by kernel_rfl) (by kernel_rfl) (by kernel_rfl) (fun _ _ _ h => h) hS0 ?_ ?_
                        rotate_left
                        · (intro w' hSw; (try dsimp only at hSw); go_simp; first | done | with_reducible rfl)
                        try simp only [Act.put, List.setIfInBounds_toArray, List.set_cons_zero, List.set_cons_succ]
                        refine any_take 3 (v := ?_) rfl rfl (by kernel_rfl) (by kernel_rfl) (by kernel_rfl) (fun _ _ _ h => h) hS0 ?_ ?_
                        rotate_left
                        · (intro w' hSw; (try dsimp only at hSw); go_simp; first | done | with_reducible rfl)
                        try simp only [Act.put, List.setIfInBounds_toArray, List.set_cons_zero, List.set_cons_succ]
                        refine any_take 4 (v := ?_) rfl rfl (by kernel_rfl) (by kernel_rfl) (by kernel_rfl) (fun _ _ _ h => h) hS0 ?_ ?_
                        rotate_left
                        · (intro w' hSw; (try dsimp only at hSw); go_simp; first | done | with_reducible rfl)
                        try simp only [Act.put, List.setIfInBounds_toArray, List.set_cons_zero, List.set_cons_succ]
                        refine any_take 5 (v := ?_) rfl rfl (by kernel_rfl) (by kernel_rfl) (by kernel_rfl) (fun _ _ _ h => h) hS0 ?_ ?_
                        rotate_left
                        · (intro w' hSw; (try dsimp only at hSw); go_simp; first | done | with_reducible rfl)
                        try simp only [Act.put, List.setIfInBounds_toArray, List.set_cons_zero, List.set_cons_succ]
                        refine any_take 6 (v := ?_) rfl rfl (by kernel_rfl) (by kernel_rfl) (by kernel_rfl) (fun _ _ _ h => h) hS0 ?_ ?_
                        rotate_left
                        · (intro w' hSw; (try dsimp only at hSw); go_simp; first | done | with_reducible rfl)
                        try simp only [Act.put, List.setIfInBounds_toArray, List.set_cons_zero, List.set_cons_succ]
                        refine any_take 7 (v := ?_) rfl rfl (by kernel_rfl) (by kernel_rfl) (by kernel_rfl) (fun _ _ _ h => h) hS0 ?_ ?_
                        rotate_left
                        · (intro w' hSw; (try dsimp only at hSw); go_simp; first | done | with_reducible rfl)
                        try simp only [Act.put, List.setIfInBounds_toArray, List.set_cons_zero, List.set_cons_succ]
                        refine any_take 8 (v := ?_) rfl rfl (by kernel_rfl) (by kernel_rfl) (by kernel_rfl) (fun _ _ _ h => h) hS0 ?_ ?_
                        rotate_left
                        · (intro w' hSw; (try dsimp only at hSw); go_simp; first | done | with_reducible rfl)
                        try simp only [Act.put, List.setIfInBounds_toArray, List.set_cons_zero, List.set_cons_succ]
                        refine any_take 9 (v := ?_) rfl rfl (by kernel_rfl) (by kernel_rfl) (by kernel_rfl) (fun _ _ _ h => h) hS0 ?_ ?_
                        rotate_left
                        · (intro w' hSw; (try dsimp only at hSw); go_simp; first | done | with_reducible rfl)
                        try simp only [Act.put, List.setIfInBounds_toArray, List.set_cons_zero, List.set_cons_succ]
                        refine any_done (by kernel_rfl) (NoPanic.normal ?_)
                        clear hS0
                        go_wp2_with fail
                        go_ret
                        exact ⟨by rw [hres.out]; simp, bel.drew.drew⟩

end Go.Proofs.Ytehhgfkbcjbciaa
