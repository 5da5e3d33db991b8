/- stillroomlaw3.MacCheck returns true. -/
import Derived.Test.YtehhgfkbcjbciaaBegun3
import Derived.Test.YtehhgfkbcjbciaaArrEq
import Derived.Test.YtehhgfkbcjbciaaLaw1
import Derived.Deep.Cut
namespace Go.Proofs.Ytehhgfkbcjbciaa
open Go.RowKit

theorem exec_load_row {o : Oper} {a : Act} {w : World} (T : TypeId) (x : Operand) (ho : o.op = .load T x) (g : Nat) (t : TypeId) (cs : Array Value) (hx : a.eval x = .pointer (some ⟨g, 0, none⟩))
    (hb : Blk w g t cs) (n : Nat) (e : TypeId) (hu : Try.prog.underlying T = some (.array n e)) (hi : (Try.prog.info? T).map (·.size) = some cs.size) : (execOp a.eval o).run Try.prog w = .ok (.value (.agg cs)) w := by
  unfold execOp
  simp only [ho, hx, Instr.loadAt, Instr.sureAddr, Sem.run_bind, Sem.run_pure, Result.andThen_ok, run_loadVar_row w g t T cs (0, 0) _ hb hu rfl hi]

theorem size_of32 {l : List UInt8} (h : l.length = 32) : (Try.prog.info? 64).map (·.size) = some (bcells l).size := by rw [bcells_size, h, size32]

theorem app_ne (M : List UInt8) (x : UInt8) : decide (M ++ [x] = M) = false := by
  rw [decide_eq_false_iff_not]
  intro h
  have := congrArg List.length h
  simp at this

theorem take_ne (M : List UInt8) (k : Nat) (h : k < M.length) : decide (M.take k = M) = false := by
  rw [decide_eq_false_iff_not]
  intro e
  have := congrArg List.length e
  rw [List.length_take] at this
  omega

theorem dec_beq (a b : List UInt8) : decide (a = b) = (a == b) := by
  by_cases h : a = b
  · rw [h, beq_self_eq_true, decide_eq_true rfl]
  · rw [decide_eq_false h, eq_comm, beq_eq_false_iff_ne]; exact h

/-- a tag and another text of its length in two blocks -/
def Tags (g h : Nat) (M U : List UInt8) (w : World) : Prop := Blk w g 64 (bcells M) ∧ Blk w h 64 (bcells U)

theorem Tags.below {g h : Nat} {M U : List UInt8} {w w' : World} (t : Tags g h M U w) (b : Below w.heap.size w w') : Tags g h M U w' := ⟨t.1.below b t.1.lt, t.2.below b t.2.lt⟩

theorem Tags.alloc {g h : Nat} {M U : List UInt8} {w : World} (t : Tags g h M U w) (o : Obj) : Tags g h M U (w.alloc o) := ⟨t.1.alloc o, t.2.alloc o⟩

theorem wp_append_grow_u8 {o : Oper} {a : Act} {K : Act → World → Prop} {Q : Exit → Act → World → Prop} {w : World} (s x : Operand)
    (ho : o.op = .call { callee := .builtin .append, args := #[s, x], argTypes := #[24, 24] })
    (b off cap D D' : Nat) (xs : List UInt8) (n : Nat) (hs : a.eval s = .slice (some ⟨b, off, none⟩) n cap) (hnx : n = xs.length) (hrx : RdB w D (some ⟨b, off, none⟩) xs) (A : Option Addr) (m c : Nat) (l : List UInt8) (hx : a.eval x = .slice A m c) (hm : m = l.length) (hr : RdB w D' A l)
    (hpos : 0 < l.length) (hg : cap < xs.length + l.length) (hlen : xs.length + l.length ≤ 140737488355328)
    (h : ∀ v' w', OwnB w' w.heap.size v' (xs ++ l) → Below w.heap.size w w' → K (a.put o.dst v') w') : Oper.wp Try.prog o a w K Q := by
  subst hnx hm
  obtain ⟨v', w', hr, h2, h3⟩ := run_append_grow_u8 w o.type b off cap D D' xs hrx A c l hr hpos hg hlen
  unfold Oper.wp execOp
  simp only [ho, resolve, invoke, builtin, Sem.run_bind, Sem.run_pure, Result.andThen_ok, List.map_toArray, List.map_cons, List.map_nil, hs, hx, hr]
  exact h v' w' h2 h3

theorem run_front32 (w : World) (g k : Nat) (hk : k < 32) : (Instr.sliceAt 64 (.pointer (some ⟨g, 0, none⟩)) none (some (.int .i64 (k : Int))) none).run Try.prog w = .ok (.slice (some ⟨g, 0, none⟩) k 32) w := by
  have hs : Try.prog.underlying 64 = some (.array 32 5) := Try.underlying64
  have h1 : ∀ w, (sizeOf 5).run Try.prog w = .ok 1 w := fun _ => by kernel_rfl
  have h2 := run_sliceBound (P := Try.prog) w .i64 (k : Int) 32 .sliceAlen (by omega) (by omega)
  simp [Instr.sliceAt, Instr.sureAddr, run_underlying hs, Instr.sliceBounds, h1, h2, add_flat]

set_option maxRecDepth 100000 in
set_option maxHeartbeats 4000000 in
theorem macCheck_walk (A0 A1 : Option Addr) (c0 c1 : Nat) (l0 l1 : List UInt8) (n2 n4 : Int) (x3 : UInt8) (w : World) (h0 : l0.length ≤ c0) (h1 : l1.length ≤ c1) (m0 : c0 ≤ maxLen) (m1 : c1 ≤ maxLen) (r0 : RdB w w.heap.size A0 l0) (r1 : RdB w w.heap.size A1 l1) (hi2 : n2 ≤ 9223372036854775807) :
    Calls Try.prog 19 #[.slice A0 l0.length c0, .slice A1 l1.length c1, .int .i64 n2, .int .u8 (x3.toNat : Int), .int .i64 n4] w fun e w' => e = .returned (.bool true) ∧ Below w.heap.size w w' := by
  have R0 := Lib.hid r0
  have R1 := Lib.hid r1
  clear r0 r1
  go_enter Try.func19, Try.ntmps19
  go_wp2_with fail
  refine (begun3 _).mono ?_
  rintro e w1 ⟨rfl, hb1⟩
  have BEL1 := Lib.hid hb1
  have hs1 := hb1.size
  clear hb1
  go_wp2_with fail
  refine (short_any A0 _ c0 80 l0 _ w.heap.size rfl h0 m0 (by omega) (R0.out.below BEL1.out)).mono ?_
  rintro e w' ⟨⟨rfl, ra⟩, rfl⟩
  have la : (l0.take 80).length ≤ 80 := List.length_take_le _ _
  have RA := Lib.hid (R0.out.take 80)
  generalize l0.take 80 = a at *
  clear ra
  go_wp2_with fail
  refine (short_any A1 _ c1 100 l1 _ w.heap.size rfl h1 m1 (by omega) (R1.out.below BEL1.out)).mono ?_
  rintro e w' ⟨⟨rfl, rb⟩, rfl⟩
  have lb : (l1.take 100).length ≤ 100 := List.length_take_le _ _
  have RB := Lib.hid (R1.out.take 100)
  generalize l1.take 100 = b at *
  obtain ⟨na, hna⟩ : ∃ n, n = a.length := ⟨_, rfl⟩
  obtain ⟨nb, hnb⟩ : ∃ n, n = b.length := ⟨_, rfl⟩
  rw [← hna, ← hnb]
  rw [← hna] at la
  rw [← hnb] at lb
  have NA := Lib.hid hna
  have NB := Lib.hid hnb
  have CHK : Hid (∀ (W : World) (A2 : Option Addr) (n2 c2 D : Nat) (tag : List UInt8) (r : Bool), decide (tag = macL a b) = r → n2 = tag.length → RdB W w.heap.size A0 a → RdB W w.heap.size A1 b → RdB W D A2 tag → w.heap.size ≤ W.heap.size → D ≤ W.heap.size →
      Calls Try.prog 51 #[.slice A0 na c0, .slice A1 nb c1, .slice A2 n2 c2] W fun e w' => e = .returned (.bool r) ∧ Below W.heap.size W w') :=
    Lib.hid fun W A2 n2 c2 D tag r h1 h2 ha hb h3 h4 h5 => check_any A0 A1 A2 na c0 nb c1 n2 c2 W.heap.size a b tag W r h1 hna hnb h2 (ha.mono h4) (hb.mono h4) (h3.mono h5) (Nat.le_refl _) (by omega) (by omega)
  have SUM := Lib.hid (macSum_any A0 A1 na c0 nb c1 w.heap.size a b w1 hna hnb (RA.out.below BEL1.out) (RB.out.below BEL1.out) hs1 (by omega) (by omega))
  clear rb hna hnb R0 R1 h0 h1 m0 m1
  go_wp2_with fail
  refine SUM.out.mono ?_
  rintro e w2 ⟨rfl, b2⟩
  have bel2 := BEL1.out.trans (b2.mono hs1)
  have hs2 := bel2.size
  have hml := macL_len a b
  generalize macL a b = M at *
  have HML := Lib.hid hml
  have BEL2 := Lib.hid bel2
  have blk0 := Blk.new w2 64 (bcells z32)
  clear b2 bel2 hml SUM
  go_upto_region 7 with (first
    | (refine wpList_alloc_row rfl 64 rfl (bcells z32) zero32 ?_; try (have blk1 := Blk.new w3 64 (bcells z32)))
    | (refine wpList_store_row rfl 64 _ _ rfl w2.heap.size 64 (bcells z32) (bcells M) rfl rfl blk0 (by rw [bcells_size, bcells_size, HML.out, z32_len]) (bcells_one _) (size_of32 HML.out) ?_; intro w3 blk3 g3 sz3; replace sz3 := Lib.hid sz3; replace g3 := Lib.hid g3)
    | (refine wpList_load_row' rfl 64 _ rfl w2.heap.size 64 (bcells M) rfl blk3 32 5 Try.underlying64 (size_of32 HML.out) ?_)
    | (refine wpList_store_row rfl 64 _ _ rfl w3.heap.size 64 (bcells z32) (bcells M) rfl rfl blk1 (by rw [bcells_size, bcells_size, HML.out, z32_len]) (bcells_one _) (size_of32 HML.out) ?_; intro w4 blk4 g4 sz4; replace sz4 := Lib.hid sz4; replace g4 := Lib.hid g4))
  have bel3 : Below w.heap.size w w3 := (BEL2.out.alloc hs2 _).grown g3.out (by simp; omega) (fun k hk => by injection hk with e; omega)
  have hs3 := bel3.size
  have bel4 : Below w.heap.size w w4 := (bel3.alloc hs3 _).grown g4.out (by simp; omega) (fun k hk => by injection hk with e; omega)
  have ltt : w2.heap.size < w3.heap.size := blk3.lt
  have blk3' : Blk w4 w2.heap.size 64 (bcells M) := (blk3.alloc _).grown g4.out (by simp; omega)
  have hgt : w.heap.size ≤ w2.heap.size := hs2
  have BLKT := Lib.hid blk3'
  have BLKU := Lib.hid blk4
  have BEL4 := Lib.hid bel4
  clear bel3 bel4 blk3' blk4 blk3 blk0 blk1 g3 g4 sz3 sz4 BEL2 BEL1
  generalize w2.heap.size = gt at *
  generalize w3.heap.size = gu at *
  by_cases h2 : 0 ≤ n2
  · obtain ⟨j, hj⟩ : ∃ j : Nat, n2 % 32 = (j : Int) := ⟨(n2 % 32).toNat, by omega⟩
    have hj32 : j < 32 := by omega
    have hjM : j < M.length := by rw [HML.out]; exact hj32
    have cj := bcell_at BLKU.out j M[j] (List.getElem?_eq_getElem hjM)
    have fj := BLKU.out.frozen j
    have hxor := u8_xor M[j] x3
    have hjI : (j : Int) < 32 := by omega
    generalize M[j] = y at cj hxor
    generalize y ^^^ x3 = z at hxor
    go_upto_region 9 with fail
    have blkU : Blk (w4.setCell ⟨gu, j, none⟩ (.int .u8 (z.toNat : Int))) gu 64 (bcells (M.set j z)) := by rw [← bcells_set]; exact BLKU.out.store j _
    have blkT : Blk (w4.setCell ⟨gu, j, none⟩ (.int .u8 (z.toNat : Int))) gt 64 (bcells M) := BLKT.out.other (by omega) _
    have bel5 : Below w.heap.size w (w4.setCell ⟨gu, j, none⟩ (.int .u8 (z.toNat : Int))) := BEL4.out.setCell (p := ⟨gu, j, none⟩) (by show w.heap.size ≤ gu; omega) _
    have hul : (M.set j z).length = 32 := by rw [List.length_set, HML.out]
    generalize M.set j z = U at *
    generalize w4.setCell ⟨gu, j, none⟩ (.int .u8 (z.toNat : Int)) = w5 at *
    clear cj fj hxor hj hjI
    have he := fun w => eq32 w U M hul HML.out
    have hgd := guard32
    have hrr := dec_beq U M
    generalize hr : (U == M) = r at he hrr
    have HR := Lib.hid hr
    have HRR := Lib.hid hrr
    have UL := Lib.hid hul
    have tags : Tags gt gu M U w5 := ⟨blkT, blkU⟩
    have BEL5 := Lib.hid bel5
    have hs5 := BEL5.out.size
    clear hr hrr
    refine any_begin (Tags gt gu M U) (by kernel_rfl) tags (fun hS0 => ?_)
    refine any_take 0 (v := ?_) rfl rfl (by kernel_rfl) (by kernel_rfl) (by kernel_rfl) (fun _ _ _ h => h) hS0 ?_ ?_
    rotate_left
    · (intro w' hSw; (try dsimp only at hSw); go_simp; first | done | with_reducible rfl)
    try simp only [Act.put, List.setIfInBounds_toArray, List.set_cons_zero, List.set_cons_succ]
    refine any_take 1 (v := ?_) rfl rfl (by kernel_rfl) (by kernel_rfl) (by kernel_rfl) (fun _ _ _ h => h) hS0 ?_ ?_
    rotate_left
    · (intro w' hSw; (try dsimp only at hSw); go_simp; first | done | with_reducible rfl)
    try simp only [Act.put, List.setIfInBounds_toArray, List.set_cons_zero, List.set_cons_succ]
    refine any_take 2 (v := ?_) rfl rfl (by kernel_rfl) (by kernel_rfl) (by kernel_rfl) (fun _ _ _ h => h) hS0 ?_ ?_
    rotate_left
    · (intro w' hSw; (try dsimp only at hSw); go_simp; first | done | with_reducible rfl)
    try simp only [Act.put, List.setIfInBounds_toArray, List.set_cons_zero, List.set_cons_succ]
    refine any_one 3 (by kernel_rfl) rfl rfl (fun K1 hK1 => ?_)
    go_simp
    refine (CHK.out w5.drew (some ⟨gt, 0, none⟩) 32 32 w5.drew.heap.size M true (by simp) HML.out.symm (RA.out.below BEL5.out.drew) (RB.out.below BEL5.out.drew) hS0.1.rdB (by simpa using hs5) (Nat.le_refl _)).mono ?_
    rintro e w6 ⟨rfl, b6⟩
    have tags6 := hS0.below b6
    have bel6 := BEL5.out.drew.trans (b6.mono (by simpa using hs5))
    have hs6 := bel6.size
    have BEL6 := Lib.hid bel6
    clear b6 bel6
    refine hK1 _ _ tags6 (fun hS1 => ?_)
    clear hK1 K1
    try simp only [Act.put, List.setIfInBounds_toArray, List.set_cons_zero, List.set_cons_succ]
    refine any_take 4 (v := ?_) rfl rfl (by kernel_rfl) (by kernel_rfl) (by kernel_rfl) (fun _ _ _ h => h) hS1 ?_ ?_
    rotate_left
    · (intro w' hSw; (try dsimp only at hSw); go_simp; first | done | with_reducible rfl)
    try simp only [Act.put, List.setIfInBounds_toArray, List.set_cons_zero, List.set_cons_succ]
    refine any_take 5 (v := ?_) rfl rfl (by kernel_rfl) (by kernel_rfl) (by kernel_rfl) (fun _ _ _ h => h) hS1 ?_ ?_
    rotate_left
    · (intro w' hSw; (try dsimp only at hSw); go_simp; first | done | with_reducible rfl)
    try simp only [Act.put, List.setIfInBounds_toArray, List.set_cons_zero, List.set_cons_succ]
    refine any_take 6 (v := ?_) rfl rfl (by kernel_rfl) (by kernel_rfl) (by kernel_rfl) (fun _ _ _ h => h) hS1 ?_ ?_
    rotate_left
    · (intro w' hSw; (try dsimp only at hSw); go_simp; first | done | with_reducible rfl)
    try simp only [Act.put, List.setIfInBounds_toArray, List.set_cons_zero, List.set_cons_succ]
    refine any_take 7 (v := ?_) rfl rfl (by kernel_rfl) (by kernel_rfl) (by kernel_rfl) (fun _ _ _ h => h) hS1 ?_ ?_
    rotate_left
    · (intro w' hSw; (try dsimp only at hSw); go_simp; first | done | with_reducible rfl)
    try simp only [Act.put, List.setIfInBounds_toArray, List.set_cons_zero, List.set_cons_succ]
    refine any_take 9 (v := .agg (bcells U)) rfl rfl (by kernel_rfl) (by kernel_rfl) (by kernel_rfl) (fun _ _ _ h => h) hS1 (fun w' hw => exec_load_row 64 _ rfl gu 64 (bcells U) rfl hw.2 32 5 Try.underlying64 (size_of32 UL.out)) ?_
    try simp only [Act.put, List.setIfInBounds_toArray, List.set_cons_zero, List.set_cons_succ]
    refine any_take 10 (v := .agg (bcells M)) rfl rfl (by kernel_rfl) (by kernel_rfl) (by kernel_rfl) (fun _ _ _ h => h) hS1 (fun w' hw => exec_load_row 64 _ rfl gt 64 (bcells M) rfl hw.1 32 5 Try.underlying64 (size_of32 HML.out)) ?_
    try simp only [Act.put, List.setIfInBounds_toArray, List.set_cons_zero, List.set_cons_succ]
    refine any_take 11 (v := ?_) rfl rfl (by kernel_rfl) (by kernel_rfl) (by kernel_rfl) (fun _ _ _ h => h) hS1 ?_ ?_
    rotate_left
    · (intro w' hSw; (try dsimp only at hSw); go_simp; first | done | with_reducible rfl)
    try simp only [Act.put, List.setIfInBounds_toArray, List.set_cons_zero, List.set_cons_succ]
    refine any_one 8 (by kernel_rfl) rfl rfl (fun K2 hK2 => ?_)
    go_simp
    refine (CHK.out w6 (some ⟨gu, 0, none⟩) 32 32 w6.heap.size U r HRR.out UL.out.symm (RA.out.below BEL6.out) (RB.out.below BEL6.out) hS1.2.rdB hs6 (Nat.le_refl _)).mono ?_
    rintro e w7 ⟨rfl, b7⟩
    have tags7 := hS1.below b7
    have bel7 := BEL6.out.trans (b7.mono hs6)
    have hs7 := bel7.size
    have BEL7 := Lib.hid bel7
    clear b7 bel7
    refine hK2 _ _ tags7 (fun hS2 => ?_)
    clear hK2 K2
    try simp only [Act.put, List.setIfInBounds_toArray, List.set_cons_zero, List.set_cons_succ]
    refine any_take 12 (v := ?_) rfl rfl (by kernel_rfl) (by kernel_rfl) (by kernel_rfl) (fun _ _ _ h => h) hS2 ?_ ?_
    rotate_left
    · (intro w' hSw; (try dsimp only at hSw); go_simp; first | done | with_reducible rfl)
    try simp only [Act.put, List.setIfInBounds_toArray, List.set_cons_zero, List.set_cons_succ]
    refine any_take 13 (v := ?_) rfl rfl (by kernel_rfl) (by kernel_rfl) (by kernel_rfl) (fun _ _ _ h => h) hS2 ?_ ?_
    rotate_left
    · (intro w' hSw; (try dsimp only at hSw); go_simp; first | done | with_reducible rfl)
    try simp only [Act.put, List.setIfInBounds_toArray, List.set_cons_zero, List.set_cons_succ]
    refine any_take 14 (v := ?_) rfl rfl (by kernel_rfl) (by kernel_rfl) (by kernel_rfl) (fun _ _ _ h => h) hS2 ?_ ?_
    rotate_left
    · (intro w' hSw; (try dsimp only at hSw); go_simp; first | done | with_reducible rfl)
    try simp only [Act.put, List.setIfInBounds_toArray, List.set_cons_zero, List.set_cons_succ]
    refine any_take 15 (v := ?_) rfl rfl (by kernel_rfl) (by kernel_rfl) (by kernel_rfl) (fun _ _ _ h => h) hS2 ?_ ?_
    rotate_left
    · (intro w' hSw; (try dsimp only at hSw); go_simp; first | done | with_reducible rfl)
    try simp only [Act.put, List.setIfInBounds_toArray, List.set_cons_zero, List.set_cons_succ]
    refine any_take 16 (v := ?_) rfl rfl (by kernel_rfl) (by kernel_rfl) (by kernel_rfl) (fun _ _ _ h => h) hS2 ?_ ?_
    rotate_left
    · (intro w' hSw; (try dsimp only at hSw); go_simp; first | done | with_reducible rfl)
    try simp only [Act.put, List.setIfInBounds_toArray, List.set_cons_zero, List.set_cons_succ]
    refine any_take 17 (v := ?_) rfl rfl (by kernel_rfl) (by kernel_rfl) (by kernel_rfl) (fun _ _ _ h => h) hS2 ?_ ?_
    rotate_left
    · (intro w' hSw; (try dsimp only at hSw); go_simp; first | done | with_reducible rfl)
    try simp only [Act.put, List.setIfInBounds_toArray, List.set_cons_zero, List.set_cons_succ]
    refine any_one 18 (by kernel_rfl) rfl rfl (fun K3 hK3 => ?_)
    go_simp
    have tags8 := hS2.alloc (.cells #[.int .u8 0] 5)
    have bel8 := BEL7.out.alloc hs7 (.cells #[.int .u8 0] 5)
    have rd8 : RdB (w7.alloc (.cells #[.int .u8 0] 5)) (w7.heap.size + 1) (some ⟨w7.heap.size, 0, none⟩) [0] := Rd.new w7 _ _ _
    generalize w7.alloc (.cells #[.int .u8 0] 5) = w8 at *
    have hs8 := bel8.size
    refine hK3 _ _ tags8 (fun hS3 => ?_)
    clear hK3 K3
    try simp only [Act.put, List.setIfInBounds_toArray, List.set_cons_zero, List.set_cons_succ]
    refine any_one 19 (by kernel_rfl) rfl rfl (fun K4 hK4 => ?_)
    refine wp_append_grow_u8 _ _ rfl gt 0 32 w8.heap.size (w7.heap.size + 1) M 32 rfl HML.out.symm hS3.1.rdB (some ⟨w7.heap.size, 0, none⟩) 1 1 [0] rfl rfl rd8 (by simp) (by rw [HML.out]; simp) (by rw [HML.out]; simp) (fun v9 w9 own9 b9 => ?_)
    obtain ⟨A9, n9, c9, rfl, hn9, _, _, rd9⟩ := own9.slice'
    have tags9 := hS3.below b9
    have bel9 := bel8.trans (b9.mono hs8)
    have hs9 := bel9.size
    refine hK4 _ _ tags9 (fun hS4 => ?_)
    clear hK4 K4
    try simp only [Act.put, List.setIfInBounds_toArray, List.set_cons_zero, List.set_cons_succ]
    refine any_one 20 (by kernel_rfl) rfl rfl (fun K5 hK5 => ?_)
    go_simp
    refine (CHK.out w9 A9 n9 c9 w9.heap.size (M ++ [0]) false (app_ne M 0) hn9.out (RA.out.below bel9) (RB.out.below bel9) rd9 hs9 (Nat.le_refl _)).mono ?_
    rintro e w10 ⟨rfl, b10⟩
    have tags10 := hS4.below b10
    have bel10 := bel9.trans (b10.mono hs9)
    have hs10 := bel10.size
    have BEL10 := Lib.hid bel10
    have RD10 := Lib.hid tags10.1.rdB
    clear own9 b9 b10 bel8 bel9 rd8 rd9 bel10
    refine hK5 _ _ tags10 (fun hS5 => ?_)
    clear hK5 K5
    try simp only [Act.put, List.setIfInBounds_toArray, List.set_cons_zero, List.set_cons_succ]
    refine any_take 21 (v := ?_) rfl rfl (by kernel_rfl) (by kernel_rfl) (by kernel_rfl) (fun _ _ _ h => h) hS5 ?_ ?_
    rotate_left
    · (intro w' hSw; (try dsimp only at hSw); go_simp; first | done | with_reducible rfl)
    try simp only [Act.put, List.setIfInBounds_toArray, List.set_cons_zero, List.set_cons_succ]
    refine any_take 22 (v := ?_) rfl rfl (by kernel_rfl) (by kernel_rfl) (by kernel_rfl) (fun _ _ _ h => h) hS5 ?_ ?_
    rotate_left
    · (intro w' hSw; (try dsimp only at hSw); go_simp; first | done | with_reducible rfl)
    try simp only [Act.put, List.setIfInBounds_toArray, List.set_cons_zero, List.set_cons_succ]
    refine any_take 23 (v := ?_) rfl rfl (by kernel_rfl) (by kernel_rfl) (by kernel_rfl) (fun _ _ _ h => h) hS5 ?_ ?_
    rotate_left
    · (intro w' hSw; (try dsimp only at hSw); go_simp; first | done | with_reducible rfl)
    try simp only [Act.put, List.setIfInBounds_toArray, List.set_cons_zero, List.set_cons_succ]
    refine any_done (by kernel_rfl) (NoPanic.normal ?_)
    clear he
    rcases (by omega : n4 < 0 ∨ (¬ n4 < 0 ∧ 31 < n4) ∨ (¬ n4 < 0 ∧ ¬ 31 < n4)) with q | ⟨q, q'⟩ | ⟨q, q'⟩
    · go_wp2_with fail
      go_ret
      exact ⟨rfl, BEL10.out⟩
    · go_wp2_with fail
      go_ret
      exact ⟨rfl, BEL10.out⟩
    · obtain ⟨k, rfl⟩ := Int.eq_ofNat_of_zero_le (by omega : 0 ≤ n4)
      have hk32 : k < 32 := by omega
      have hsl := fun W : World => run_front32 W gt k hk32
      go_wp2_with fail
      refine (CHK.out w10 (some ⟨gt, 0, none⟩) k 32 w10.heap.size (M.take k) false (take_ne M k (by rw [HML.out]; exact hk32)) (by rw [List.length_take, HML.out]; omega) (RA.out.below BEL10.out) (RB.out.below BEL10.out) (RD10.out.take k) hs10 (Nat.le_refl _)).mono ?_
      rintro e w11 ⟨rfl, b11⟩
      have bel11 := BEL10.out.trans (b11.mono hs10)
      go_wp2_with fail
      go_ret
      exact ⟨rfl, bel11⟩
  · go_upto_region 9 with fail
    have he := fun w => eq32 w M M HML.out HML.out
    have hgd := guard32
    have hrr := dec_beq M M
    generalize hr : (M == M) = r at he hrr
    have HR := Lib.hid hr
    have HRR := Lib.hid hrr
    have UL := Lib.hid HML.out
    have tags : Tags gt gu M M w4 := ⟨BLKT.out, BLKU.out⟩
    have BEL5 := Lib.hid BEL4.out
    have hs5 := BEL5.out.size
    clear hr hrr
    refine any_begin (Tags gt gu M M) (by kernel_rfl) tags (fun hS0 => ?_)
    refine any_take 0 (v := ?_) rfl rfl (by kernel_rfl) (by kernel_rfl) (by kernel_rfl) (fun _ _ _ h => h) hS0 ?_ ?_
    rotate_left
    · (intro w' hSw; (try dsimp only at hSw); go_simp; first | done | with_reducible rfl)
    try simp only [Act.put, List.setIfInBounds_toArray, List.set_cons_zero, List.set_cons_succ]
    refine any_take 1 (v := ?_) rfl rfl (by kernel_rfl) (by kernel_rfl) (by kernel_rfl) (fun _ _ _ h => h) hS0 ?_ ?_
    rotate_left
    · (intro w' hSw; (try dsimp only at hSw); go_simp; first | done | with_reducible rfl)
    try simp only [Act.put, List.setIfInBounds_toArray, List.set_cons_zero, List.set_cons_succ]
    refine any_take 2 (v := ?_) rfl rfl (by kernel_rfl) (by kernel_rfl) (by kernel_rfl) (fun _ _ _ h => h) hS0 ?_ ?_
    rotate_left
    · (intro w' hSw; (try dsimp only at hSw); go_simp; first | done | with_reducible rfl)
    try simp only [Act.put, List.setIfInBounds_toArray, List.set_cons_zero, List.set_cons_succ]
    refine any_one 3 (by kernel_rfl) rfl rfl (fun K1 hK1 => ?_)
    go_simp
    refine (CHK.out w4.drew (some ⟨gt, 0, none⟩) 32 32 w4.drew.heap.size M true (by simp) HML.out.symm (RA.out.below BEL5.out.drew) (RB.out.below BEL5.out.drew) hS0.1.rdB (by simpa using hs5) (Nat.le_refl _)).mono ?_
    rintro e w6 ⟨rfl, b6⟩
    have tags6 := hS0.below b6
    have bel6 := BEL5.out.drew.trans (b6.mono (by simpa using hs5))
    have hs6 := bel6.size
    have BEL6 := Lib.hid bel6
    clear b6 bel6
    refine hK1 _ _ tags6 (fun hS1 => ?_)
    clear hK1 K1
    try simp only [Act.put, List.setIfInBounds_toArray, List.set_cons_zero, List.set_cons_succ]
    refine any_take 4 (v := ?_) rfl rfl (by kernel_rfl) (by kernel_rfl) (by kernel_rfl) (fun _ _ _ h => h) hS1 ?_ ?_
    rotate_left
    · (intro w' hSw; (try dsimp only at hSw); go_simp; first | done | with_reducible rfl)
    try simp only [Act.put, List.setIfInBounds_toArray, List.set_cons_zero, List.set_cons_succ]
    refine any_take 5 (v := ?_) rfl rfl (by kernel_rfl) (by kernel_rfl) (by kernel_rfl) (fun _ _ _ h => h) hS1 ?_ ?_
    rotate_left
    · (intro w' hSw; (try dsimp only at hSw); go_simp; first | done | with_reducible rfl)
    try simp only [Act.put, List.setIfInBounds_toArray, List.set_cons_zero, List.set_cons_succ]
    refine any_take 6 (v := ?_) rfl rfl (by kernel_rfl) (by kernel_rfl) (by kernel_rfl) (fun _ _ _ h => h) hS1 ?_ ?_
    rotate_left
    · (intro w' hSw; (try dsimp only at hSw); go_simp; first | done | with_reducible rfl)
    try simp only [Act.put, List.setIfInBounds_toArray, List.set_cons_zero, List.set_cons_succ]
    refine any_take 7 (v := ?_) rfl rfl (by kernel_rfl) (by kernel_rfl) (by kernel_rfl) (fun _ _ _ h => h) hS1 ?_ ?_
    rotate_left
    · (intro w' hSw; (try dsimp only at hSw); go_simp; first | done | with_reducible rfl)
    try simp only [Act.put, List.setIfInBounds_toArray, List.set_cons_zero, List.set_cons_succ]
    refine any_take 9 (v := .agg (bcells M)) rfl rfl (by kernel_rfl) (by kernel_rfl) (by kernel_rfl) (fun _ _ _ h => h) hS1 (fun w' hw => exec_load_row 64 _ rfl gu 64 (bcells M) rfl hw.2 32 5 Try.underlying64 (size_of32 UL.out)) ?_
    try simp only [Act.put, List.setIfInBounds_toArray, List.set_cons_zero, List.set_cons_succ]
    refine any_take 10 (v := .agg (bcells M)) rfl rfl (by kernel_rfl) (by kernel_rfl) (by kernel_rfl) (fun _ _ _ h => h) hS1 (fun w' hw => exec_load_row 64 _ rfl gt 64 (bcells M) rfl hw.1 32 5 Try.underlying64 (size_of32 HML.out)) ?_
    try simp only [Act.put, List.setIfInBounds_toArray, List.set_cons_zero, List.set_cons_succ]
    refine any_take 11 (v := ?_) rfl rfl (by kernel_rfl) (by kernel_rfl) (by kernel_rfl) (fun _ _ _ h => h) hS1 ?_ ?_
    rotate_left
    · (intro w' hSw; (try dsimp only at hSw); go_simp; first | done | with_reducible rfl)
    try simp only [Act.put, List.setIfInBounds_toArray, List.set_cons_zero, List.set_cons_succ]
    refine any_one 8 (by kernel_rfl) rfl rfl (fun K2 hK2 => ?_)
    go_simp
    refine (CHK.out w6 (some ⟨gu, 0, none⟩) 32 32 w6.heap.size M r HRR.out UL.out.symm (RA.out.below BEL6.out) (RB.out.below BEL6.out) hS1.2.rdB hs6 (Nat.le_refl _)).mono ?_
    rintro e w7 ⟨rfl, b7⟩
    have tags7 := hS1.below b7
    have bel7 := BEL6.out.trans (b7.mono hs6)
    have hs7 := bel7.size
    have BEL7 := Lib.hid bel7
    clear b7 bel7
    refine hK2 _ _ tags7 (fun hS2 => ?_)
    clear hK2 K2
    try simp only [Act.put, List.setIfInBounds_toArray, List.set_cons_zero, List.set_cons_succ]
    refine any_take 12 (v := ?_) rfl rfl (by kernel_rfl) (by kernel_rfl) (by kernel_rfl) (fun _ _ _ h => h) hS2 ?_ ?_
    rotate_left
    · (intro w' hSw; (try dsimp only at hSw); go_simp; first | done | with_reducible rfl)
    try simp only [Act.put, List.setIfInBounds_toArray, List.set_cons_zero, List.set_cons_succ]
    refine any_take 13 (v := ?_) rfl rfl (by kernel_rfl) (by kernel_rfl) (by kernel_rfl) (fun _ _ _ h => h) hS2 ?_ ?_
    rotate_left
    · (intro w' hSw; (try dsimp only at hSw); go_simp; first | done | with_reducible rfl)
    try simp only [Act.put, List.setIfInBounds_toArray, List.set_cons_zero, List.set_cons_succ]
    refine any_take 14 (v := ?_) rfl rfl (by kernel_rfl) (by kernel_rfl) (by kernel_rfl) (fun _ _ _ h => h) hS2 ?_ ?_
    rotate_left
    · (intro w' hSw; (try dsimp only at hSw); go_simp; first | done | with_reducible rfl)
    try simp only [Act.put, List.setIfInBounds_toArray, List.set_cons_zero, List.set_cons_succ]
    refine any_take 15 (v := ?_) rfl rfl (by kernel_rfl) (by kernel_rfl) (by kernel_rfl) (fun _ _ _ h => h) hS2 ?_ ?_
    rotate_left
    · (intro w' hSw; (try dsimp only at hSw); go_simp; first | done | with_reducible rfl)
    try simp only [Act.put, List.setIfInBounds_toArray, List.set_cons_zero, List.set_cons_succ]
    refine any_take 16 (v := ?_) rfl rfl (by kernel_rfl) (by kernel_rfl) (by kernel_rfl) (fun _ _ _ h => h) hS2 ?_ ?_
    rotate_left
    · (intro w' hSw; (try dsimp only at hSw); go_simp; first | done | with_reducible rfl)
    try simp only [Act.put, List.setIfInBounds_toArray, List.set_cons_zero, List.set_cons_succ]
    refine any_take 17 (v := ?_) rfl rfl (by kernel_rfl) (by kernel_rfl) (by kernel_rfl) (fun _ _ _ h => h) hS2 ?_ ?_
    rotate_left
    · (intro w' hSw; (try dsimp only at hSw); go_simp; first | done | with_reducible rfl)
    try simp only [Act.put, List.setIfInBounds_toArray, List.set_cons_zero, List.set_cons_succ]
    refine any_one 18 (by kernel_rfl) rfl rfl (fun K3 hK3 => ?_)
    go_simp
    have tags8 := hS2.alloc (.cells #[.int .u8 0] 5)
    have bel8 := BEL7.out.alloc hs7 (.cells #[.int .u8 0] 5)
    have rd8 : RdB (w7.alloc (.cells #[.int .u8 0] 5)) (w7.heap.size + 1) (some ⟨w7.heap.size, 0, none⟩) [0] := Rd.new w7 _ _ _
    generalize w7.alloc (.cells #[.int .u8 0] 5) = w8 at *
    have hs8 := bel8.size
    refine hK3 _ _ tags8 (fun hS3 => ?_)
    clear hK3 K3
    try simp only [Act.put, List.setIfInBounds_toArray, List.set_cons_zero, List.set_cons_succ]
    refine any_one 19 (by kernel_rfl) rfl rfl (fun K4 hK4 => ?_)
    refine wp_append_grow_u8 _ _ rfl gt 0 32 w8.heap.size (w7.heap.size + 1) M 32 rfl HML.out.symm hS3.1.rdB (some ⟨w7.heap.size, 0, none⟩) 1 1 [0] rfl rfl rd8 (by simp) (by rw [HML.out]; simp) (by rw [HML.out]; simp) (fun v9 w9 own9 b9 => ?_)
    obtain ⟨A9, n9, c9, rfl, hn9, _, _, rd9⟩ := own9.slice'
    have tags9 := hS3.below b9
    have bel9 := bel8.trans (b9.mono hs8)
    have hs9 := bel9.size
    refine hK4 _ _ tags9 (fun hS4 => ?_)
    clear hK4 K4
    try simp only [Act.put, List.setIfInBounds_toArray, List.set_cons_zero, List.set_cons_succ]
    refine any_one 20 (by kernel_rfl) rfl rfl (fun K5 hK5 => ?_)
    go_simp
    refine (CHK.out w9 A9 n9 c9 w9.heap.size (M ++ [0]) false (app_ne M 0) hn9.out (RA.out.below bel9) (RB.out.below bel9) rd9 hs9 (Nat.le_refl _)).mono ?_
    rintro e w10 ⟨rfl, b10⟩
    have tags10 := hS4.below b10
    have bel10 := bel9.trans (b10.mono hs9)
    have hs10 := bel10.size
    have BEL10 := Lib.hid bel10
    have RD10 := Lib.hid tags10.1.rdB
    clear own9 b9 b10 bel8 bel9 rd8 rd9 bel10
    refine hK5 _ _ tags10 (fun hS5 => ?_)
    clear hK5 K5
    try simp only [Act.put, List.setIfInBounds_toArray, List.set_cons_zero, List.set_cons_succ]
    refine any_take 21 (v := ?_) rfl rfl (by kernel_rfl) (by kernel_rfl) (by kernel_rfl) (fun _ _ _ h => h) hS5 ?_ ?_
    rotate_left
    · (intro w' hSw; (try dsimp only at hSw); go_simp; first | done | with_reducible rfl)
    try simp only [Act.put, List.setIfInBounds_toArray, List.set_cons_zero, List.set_cons_succ]
    refine any_take 22 (v := ?_) rfl rfl (by kernel_rfl) (by kernel_rfl) (by kernel_rfl) (fun _ _ _ h => h) hS5 ?_ ?_
    rotate_left
    · (intro w' hSw; (try dsimp only at hSw); go_simp; first | done | with_reducible rfl)
    try simp only [Act.put, List.setIfInBounds_toArray, List.set_cons_zero, List.set_cons_succ]
    refine any_take 23 (v := ?_) rfl rfl (by kernel_rfl) (by kernel_rfl) (by kernel_rfl) (fun _ _ _ h => h) hS5 ?_ ?_
    rotate_left
    · (intro w' hSw; (try dsimp only at hSw); go_simp; first | done | with_reducible rfl)
    try simp only [Act.put, List.setIfInBounds_toArray, List.set_cons_zero, List.set_cons_succ]
    refine any_done (by kernel_rfl) (NoPanic.normal ?_)
    clear he
    rcases (by omega : n4 < 0 ∨ (¬ n4 < 0 ∧ 31 < n4) ∨ (¬ n4 < 0 ∧ ¬ 31 < n4)) with q | ⟨q, q'⟩ | ⟨q, q'⟩
    · go_wp2_with fail
      go_ret
      exact ⟨rfl, BEL10.out⟩
    · go_wp2_with fail
      go_ret
      exact ⟨rfl, BEL10.out⟩
    · obtain ⟨k, rfl⟩ := Int.eq_ofNat_of_zero_le (by omega : 0 ≤ n4)
      have hk32 : k < 32 := by omega
      have hsl := fun W : World => run_front32 W gt k hk32
      go_wp2_with fail
      refine (CHK.out w10 (some ⟨gt, 0, none⟩) k 32 w10.heap.size (M.take k) false (take_ne M k (by rw [HML.out]; exact hk32)) (by rw [List.length_take, HML.out]; omega) (RA.out.below BEL10.out) (RB.out.below BEL10.out) (RD10.out.take k) hs10 (Nat.le_refl _)).mono ?_
      rintro e w11 ⟨rfl, b11⟩
      have bel11 := BEL10.out.trans (b11.mono hs10)
      go_wp2_with fail
      go_ret
      exact ⟨rfl, bel11⟩

end Go.Proofs.Ytehhgfkbcjbciaa
