/- sha.New, begin, Write. -/
import Derived.Test.YtehhgfkbcjbciaaMix1
import Derived.Test.YtehhgfkbcjbciaaShaLaws
import Derived.Test.YtehhgfkbcjbciaaMid
import Derived.Deep.LoopGhost
namespace Go.Proofs.Ytehhgfkbcjbciaa
open Go.RowKit

/-- a hash's cells: k blocks of M are mixed in, v is the rest -/
def hcells (k : Nat) (M : List UInt8) (v : Value) (n : Int) : Array Value := ([Value.bool true] ++ (blocks h0s M k).map WV ++ [v, .int .u64 n]).toArray

theorem hws_len (M : List UInt8) (k : Nat) : ((blocks h0s M k).map WV).length = 8 := by rw [List.length_map, blocks_len h0s M h0s_len]

theorem hcells_on (k : Nat) (M : List UInt8) (v : Value) (n : Int) : (hcells k M v n)[0]? = some (.bool true) := by simp [hcells]

theorem hcells_rest (k : Nat) (M : List UInt8) (v : Value) (n : Int) : (hcells k M v n)[9]? = some v := by
  have h := hws_len M k
  unfold hcells
  rw [List.getElem?_toArray, List.getElem?_append_right (by simp [h]), List.length_append, h]
  rfl

theorem hcells_n (k : Nat) (M : List UInt8) (v : Value) (n : Int) : (hcells k M v n)[10]? = some (.int .u64 n) := by
  have h := hws_len M k
  unfold hcells
  rw [List.getElem?_toArray, List.getElem?_append_right (by simp [h]), List.length_append, h]
  rfl

theorem hcells_setRest (k : Nat) (M : List UInt8) (v v' : Value) (n : Int) : (hcells k M v n).setIfInBounds 9 v' = hcells k M v' n := by
  have h := hws_len M k
  unfold hcells
  rw [List.setIfInBounds_toArray, List.set_append_right _ _ (by simp [h]), List.length_append, h]
  rfl

theorem hcells_setN (k : Nat) (M : List UInt8) (v : Value) (n n' : Int) : (hcells k M v n).setIfInBounds 10 (.int .u64 n') = hcells k M v n' := by
  have h := hws_len M k
  unfold hcells
  rw [List.setIfInBounds_toArray, List.set_append_right _ _ (by simp [h]), List.length_append, h]
  rfl

/-- block g is a hash of M of which k blocks are mixed in -/
structure HashK (w : World) (base g k : Nat) (v : Value) (M : List UInt8) : Prop where
  blk : Blk w g 90 (hcells k M v (M.length : Int))
  rest : OwnM w base v (M.drop (64 * k))
  le : 64 * k ≤ M.length

theorem zeroH : (Try.prog.info? 90).map (·.size) = some 11 := by kernel_rfl

set_option maxRecDepth 100000 in
set_option maxHeartbeats 1000000 in
theorem new_any (w : World) : Calls Try.prog 45 #[] w fun e w' => ∃ g, e = .returned (.pointer (some ⟨g, 0, none⟩)) ∧ w.heap.size ≤ g ∧ HashK w' w.heap.size g 0 (.slice none 0 0) [] ∧ Below w.heap.size w w' := by
  go_enter Try.func45, Try.ntmps45
  go_wp2_with fail
  refine (start_any w).mono ?_
  rintro e w1 ⟨rfl, b1⟩
  go_wp2_with (refine wpList_build_row rfl 90 _ rfl (.agg (hcells 0 [] (.slice none 0 0) 0)) (by kernel_rfl) ?_)
  have blk := Blk.new w1 90 (hcells 0 [] (.slice none 0 0) 0)
  have hz := b1.size
  go_ret
  exact ⟨w1.heap.size, rfl, hz, ⟨blk, OwnM.nil _ _, by simp⟩, b1.alloc hz _⟩

set_option maxHeartbeats 400000 in
theorem begin_on (g : Nat) (w : World) (h : w.cell? ⟨g, 0, none⟩ = some (.bool true)) : Calls Try.prog 64 #[.pointer (some ⟨g, 0, none⟩)] w fun e w' => e = .returned (.tuple #[]) ∧ w = w' := by
  go_enter Try.func64, Try.ntmps64
  go_wp2
  go_end0
  exact ⟨rfl, rfl⟩

theorem write_nil (A : Option Addr) (n c : Nat) (w : World) : Calls Try.prog 46 #[.pointer none, .slice A n c] w fun e w' => e = .returned (.tuple #[]) ∧ w = w' := by
  go_enter Try.func46, Try.ntmps46
  go_wp2
  exact bodyPost_ret (results_none rfl _ _ _) rfl ⟨rfl, rfl⟩

/-- what Write leaves -/
def Wrote (w : World) (base g : Nat) (v : Value) (M : List UInt8) (e : Ending) (w' : World) : Prop :=
  e = .returned (.tuple #[]) ∧ ∃ v', HashK w' base g (M.length / 64) v' M ∧ Two w w' g v.ownBlock ∧ Later w.heap.size v.ownBlock v'

set_option maxRecDepth 100000 in
set_option maxHeartbeats 4000000 in
theorem write_any (base g k : Nat) (v : Value) (M b : List UInt8) (A : Option Addr) (n c : Nat) (w : World) (hh : HashK w base g k v M) (hn : n = b.length) (D : Nat) (hr : RdB w D A b) (hD : D ≤ g) (hb : base ≤ w.heap.size)
    (hM : (M.length : Int) ≤ 100000) (hL : (b.length : Int) ≤ 100000) :
    Calls Try.prog 46 #[.pointer (some ⟨g, 0, none⟩), .slice A n c] w (Wrote w base g v (M ++ b)) := by
  subst hn
  have c0 := (hh.blk.cell 0).trans (hcells_on _ _ _ _)
  have c9 := (hh.blk.cell 9).trans (hcells_rest _ _ _ _)
  have c10 := (hh.blk.cell 10).trans (hcells_n _ _ _ _)
  have f9 := hh.blk.frozen 9
  have f10 := hh.blk.frozen 10
  have ne := hh.rest.ne hh.blk (by decide)
  have lt := hh.blk.lt
  go_enter Try.func46, Try.ntmps46
  go_wp2_with fail
  refine (begin_on g w c0).mono ?_
  rintro e w' ⟨rfl, rfl⟩
  have own1 : ∀ x, OwnM (w.setCell ⟨g, 10, none⟩ x) base v (M.drop (64 * k)) := fun x => hh.rest.keep fun g' hg' => Below.heap_setCell w ⟨g, 10, none⟩ x g' (fun e => ne (by rw [hg', e]))
  have hr1 : ∀ x, RdB (w.setCell ⟨g, 10, none⟩ x) D A b := fun x => hr.keep fun p hp => World.cell?_of_block (Below.heap_setCell w ⟨g, 10, none⟩ x p.block (by show p.block ≠ g; omega))
  have hl1 : (M.drop (64 * k)).length + b.length ≤ 140737488355328 := by rw [List.length_drop]; omega
  have blk1 : Blk (w.setCell ⟨g, 10, none⟩ (.int .u64 ((M.length : Int) + (b.length : Int)))) g 90 (hcells k M v ((M.length : Int) + (b.length : Int))) := by
    have h := hh.blk.store 10 (.int .u64 ((M.length : Int) + (b.length : Int)))
    rwa [hcells_setN] at h
  have BLK1 := Lib.hid blk1
  have NE := Lib.hid ne
  have HH := Lib.hid hh
  clear blk1 ne hh
  have OWN := Lib.hid own1
  have RD := Lib.hid hr1
  have HL := Lib.hid hl1
  clear own1 hr1 hl1
  go_wp2_with (at_builtin; go_loud (refine wpList_append_mid rfl (.tmp 22) (.tmp 23) rfl base v _ rfl (OWN.out _) D A b.length c b rfl rfl (RD.out _) HL.out (by simpa using hb) ?_; intro v' w2 own2 g2 la2; obtain ⟨A2, N2, n2, rfl, _, _, _, _⟩ := own2.slice'; have blk2 := BLK1.out.grown g2 NE.out; have d9 := (blk2.cell 9).trans (hcells_rest _ _ _ _); have f2 := blk2.frozen 9; replace own2 := Lib.hid own2; replace g2 := Lib.hid g2; replace la2 := Lib.hid la2; replace blk2 := Lib.hid blk2))
  have blk3 : Blk (w2.setCell ⟨g, 9, none⟩ (.slice A2 N2 n2)) g 90 (hcells k (M ++ b) (.slice A2 N2 n2) ((M ++ b).length : Int)) := by
    have h := blk2.out.store 9 (.slice A2 N2 n2)
    rw [hcells_setRest] at h
    have e1 : blocks h0s (M ++ b) k = blocks h0s M k := blocks_left h0s M b k HH.out.le
    have e2 : ((M ++ b).length : Int) = (M.length : Int) + (b.length : Int) := by rw [List.length_append]; omega
    unfold hcells
    rw [e1, e2]
    exact h
  have two3 : Two w (w2.setCell ⟨g, 9, none⟩ (.slice A2 N2 n2)) g v.ownBlock :=
    (((Two.refl w g v.ownBlock).set 10 _).grown g2.out (fun k hk => .inr (.inl hk.symm))).set 9 _
  have hh3 : HashK (w2.setCell ⟨g, 9, none⟩ (.slice A2 N2 n2)) base g k (.slice A2 N2 n2) (M ++ b) := by
    have o := own2.out
    have ne2 := o.ne blk2.out (by decide)
    refine ⟨blk3, ?_, by have := HH.out.le; rw [List.length_append]; omega⟩
    have e : (M ++ b).drop (64 * k) = M.drop (64 * k) ++ b := List.drop_append_of_le_length HH.out.le
    rw [e]
    exact o.keep fun g' hg' => Below.heap_setCell w2 ⟨g, 9, none⟩ _ g' (fun h => ne2 (by rw [hg', h]))
  have la3 : Later w.heap.size v.ownBlock (.slice A2 N2 n2) := by simpa using la2.out
  have hle := HH.out.le
  generalize (Value.slice A2 N2 n2) = v3 at *
  generalize w2.setCell ⟨g, 9, none⟩ v3 = w3 at *
  have hMb : ((M ++ b).length : Int) ≤ 200000 := by rw [List.length_append]; omega
  have hkT : k ≤ (M ++ b).length / 64 := by rw [List.length_append]; omega
  clear blk2 own2 g2 la2 d9 f2 blk3 OWN RD HL BLK1 NE HH c0 c9 c10 f9 f10 hle hM hL hr
  generalize M ++ b = M' at *
  go_loopg [27] (M'.length / 64 - k) (fun q _ wr => ∃ k v', k + q = M'.length / 64 ∧ HashK wr base g k v' M' ∧ Two w wr g v.ownBlock ∧ Later w.heap.size v.ownBlock v')
  case atStart => exact ⟨k, v3, by omega, hh3, two3, la3⟩
  case round =>
    clear hh3 two3 la3 hkT
    obtain ⟨k, v', hkq, hh, two, la⟩ := hrel
    have hrest := hh.rest
    obtain ⟨A1, c1, rfl, hle1, hmx1, rd1⟩ := hrest.slice
    have c9 := (hh.blk.cell 9).trans (hcells_rest _ _ _ _)
    have f9 := hh.blk.frozen 9
    have hle := hh.le
    have ltg := hh.blk.lt
    have BLK := Lib.hid hh.blk
    have REST := Lib.hid hrest
    have TWO := Lib.hid two
    have LA := Lib.hid la
    have HLE := Lib.hid hle
    have hd : (M'.drop (64 * k)).length = M'.length - 64 * k := List.length_drop
    generalize hl : M'.drop (64 * k) = l at *
    have LL := Lib.hid hl
    have HD := Lib.hid hd
    clear hh hrest two la hl
    by_cases hlt : 64 ≤ l.length
    · clear hd hle
      have hc0 : ¬ c1 = 0 := by omega
      have hc64 : (64 : Int) ≤ c1 := by omega
      go_wp2_with fail
      refine any_begin (fun w' => w'.cell? ⟨g, 9, none⟩ = some (.slice A1 l.length c1)) (by kernel_rfl) c9 (fun hS0 => ?_)
      refine any_take 0 (v := ?_) rfl rfl (by kernel_rfl) (by kernel_rfl) (by kernel_rfl) (fun _ _ _ h => h) hS0 ?_ ?_
      rotate_left
      · (intro w' hSw; (try dsimp only at hSw); go_simp; first | done | with_reducible rfl)
      try simp only [Act.put, List.setIfInBounds_toArray, List.set_cons_zero, List.set_cons_succ]
      refine any_take 1 (v := ?_) rfl rfl (by kernel_rfl) (by kernel_rfl) (by kernel_rfl) (fun _ _ _ h => h) hS0 ?_ ?_
      rotate_left
      · (intro w' hSw; (try dsimp only at hSw); go_simp; first | done | with_reducible rfl)
      try simp only [Act.put, List.setIfInBounds_toArray, List.set_cons_zero, List.set_cons_succ]
      refine any_take 2 (v := ?_) rfl rfl (by kernel_rfl) (by kernel_rfl) (by kernel_rfl) (fun _ _ _ h => h) hS0 ?_ ?_
      rotate_left
      · (intro w' hSw; (try dsimp only at hSw); go_simp; first | done | with_reducible rfl)
      try simp only [Act.put, List.setIfInBounds_toArray, List.set_cons_zero, List.set_cons_succ]
      refine any_take 3 (v := ?_) rfl rfl (by kernel_rfl) (by kernel_rfl) (by kernel_rfl) (fun _ _ _ h => h) hS0 ?_ ?_
      rotate_left
      · (intro w' hSw; (try dsimp only at hSw); go_simp; first | done | with_reducible rfl)
      try simp only [Act.put, List.setIfInBounds_toArray, List.set_cons_zero, List.set_cons_succ]
      refine any_take 4 (v := ?_) rfl rfl (by kernel_rfl) (by kernel_rfl) (by kernel_rfl) (fun _ _ _ h => h) hS0 ?_ ?_
      rotate_left
      · (intro w' hSw; (try dsimp only at hSw); go_simp; first | done | with_reducible rfl)
      try simp only [Act.put, List.setIfInBounds_toArray, List.set_cons_zero, List.set_cons_succ]
      refine any_take 5 (v := ?_) rfl rfl (by kernel_rfl) (by kernel_rfl) (by kernel_rfl) (fun _ _ _ h => h) hS0 ?_ ?_
      rotate_left
      · (intro w' hSw; (try dsimp only at hSw); go_simp; first | done | with_reducible rfl)
      try simp only [Act.put, List.setIfInBounds_toArray, List.set_cons_zero, List.set_cons_succ]
      refine any_take 6 (v := ?_) rfl rfl (by kernel_rfl) (by kernel_rfl) (by kernel_rfl) (fun _ _ _ h => h) hS0 ?_ ?_
      rotate_left
      · (intro w' hSw; (try dsimp only at hSw); go_simp; first | done | with_reducible rfl)
      try simp only [Act.put, List.setIfInBounds_toArray, List.set_cons_zero, List.set_cons_succ]
      refine any_take 7 (v := ?_) rfl rfl (by kernel_rfl) (by kernel_rfl) (by kernel_rfl) (fun _ _ _ h => h) hS0 ?_ ?_
      rotate_left
      · (intro w' hSw; (try dsimp only at hSw); go_simp; first | done | with_reducible rfl)
      try simp only [Act.put, List.setIfInBounds_toArray, List.set_cons_zero, List.set_cons_succ]
      refine any_one 8 (by kernel_rfl) rfl rfl (fun K hK => ?_)
      go_simp
      have rd64 := rd1.take 64
      have len64 : (l.take 64).length = 64 := by rw [List.length_take]; omega
      refine (mix_any g 1 90 [.bool true] [.slice A1 l.length c1, .int .u64 (M'.length : Int)] (blocks h0s M' k) A1 c1 (l.take 64) _ (show Blk wr.drew g 90 _ from BLK.out) rfl (blocks_len h0s M' h0s_len k) (show RdB wr.drew wr.drew.heap.size A1 (l.take 64) from rd64) len64).mono ?_
      rintro e w5 ⟨rfl, blk5, g5⟩
      have blk6 : Blk w5 g 90 (hcells (k + 1) M' (.slice A1 l.length c1) (M'.length : Int)) := by
        have e : blocks h0s M' (k + 1) = mixS (blocks h0s M' k) (l.take 64) := by rw [← LL.out]; rfl
        unfold hcells
        rw [e]
        exact blk5
      have d9 := (blk6.cell 9).trans (hcells_rest _ _ _ _)
      have e9 := blk6.frozen 9
      have BLK6 := Lib.hid blk6
      have ne1 := REST.out.ne BLK.out (by decide)
      have own5 : OwnM w5 base (.slice A1 l.length c1) l := REST.out.keep fun g' hg' => g5.block g' (by have := (REST.out.lt g' hg').2; simpa using this) (fun h => ne1 (by rw [hg', h]))
      have cut5 := own5.cut 64 hlt (by omega)
      obtain ⟨A3, hA3, _⟩ := rd1.rest l.length c1 64 rfl hle1 hlt
      generalize (l.drop 64).length = N3 at hA3
      generalize c1 - 64 = n3 at hA3
      have HA := Lib.hid hA3
      have CUT := Lib.hid cut5
      have G5 := Lib.hid g5
      clear blk5 blk6 own5 cut5 hA3 g5 len64
      refine hK _ _ d9 (fun hS1 => ?_)
      clear hK K
      try simp only [Act.put, List.setIfInBounds_toArray, List.set_cons_zero, List.set_cons_succ]
      refine any_done (by kernel_rfl) (NoPanic.normal ?_)
      clear hS0 hS1 c9 f9
      go_wp2_with (refine wpList_cut_u8 rfl _ _ rfl A1 l.length c1 64 rfl rfl hlt ?_; rw [HA.out])
      have hkT : k + 1 ≤ M'.length / 64 := by have := HD.out; have := HLE.out; omega
      go_roundg (gk - 1)
      case measure => omega
      case rel =>
        have o := CUT.out.1
        have ob := CUT.out.2
        rw [HA.out] at o ob
        have ne3 := o.ne BLK6.out (by decide)
        refine ⟨k + 1, .slice A3 N3 n3, by omega, ⟨?_, ?_, by have := HD.out; have := HLE.out; omega⟩, ?_, ?_⟩
        · have h := BLK6.out.store 9 (.slice A3 N3 n3)
          rwa [hcells_setRest] at h
        · have e : M'.drop (64 * (k + 1)) = l.drop 64 := by rw [← LL.out, List.drop_drop]; congr 1
          rw [e]
          exact o.keep fun g' hg' => Below.heap_setCell w5 ⟨g, 9, none⟩ _ g' (fun h => ne3 (by rw [hg', h]))
        · exact (TWO.out.drew.grown G5.out (fun k' hk' => .inl (by injection hk' with e; exact e.symm))).set 9 _
        · unfold Later at *
          rw [ob]
          exact LA.out
    · go_wp2_with fail
      go_end0
      have hk : k = M'.length / 64 := by have := HD.out; have := HLE.out; omega
      subst hk
      exact ⟨rfl, _, ⟨BLK.out, by rw [LL.out]; exact REST.out, HLE.out⟩, TWO.out, LA.out⟩

end Go.Proofs.Ytehhgfkbcjbciaa
