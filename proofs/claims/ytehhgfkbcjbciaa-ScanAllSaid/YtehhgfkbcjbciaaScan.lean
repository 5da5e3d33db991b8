/- scan.All, scan.Front and the reference's. -/
import Derived.Test.YtehhgfkbcjbciaaFound
namespace Go.Proofs.Ytehhgfkbcjbciaa
open Go.RowKit

theorem RdB.tailFrom {w : World} {D b off : Nat} {l : List UInt8} (h : RdB w D (some ⟨b, off, none⟩) l) (k : Nat) : RdB w D (some ⟨b, off + k, none⟩) (l.drop k) := by
  have := h.part k (l.drop k).length
  rwa [List.take_length] at this

theorem Blk.new2 (w : World) (o : Obj) (t : TypeId) (cs : Array Value) : Blk ((w.alloc o).alloc (.cells cs t)) (w.heap.size + 1) t cs := by
  have h := Blk.new (w.alloc o) t cs
  simpa using h

theorem OwnF.lt {E : TypeId} {w : World} {base : Nat} {v : Value} {l : List (Nat × Rec)} (h : OwnF E w base v l) : ∀ g, v.ownBlock = some g → base ≤ g ∧ g < w.heap.size := World.ownsRow.lt h

set_option maxRecDepth 100000 in
set_option maxHeartbeats 2000000 in
theorem scanAll_any (A : Option Addr) (c : Nat) (l : List UInt8) (w : World) (hr : RdB w w.heap.size A l) (hc : l.length ≤ 100000) (hcc : l.length ≤ c) (hcm : c ≤ maxLen) :
    Calls Try.prog 39 #[.slice A l.length c] w fun e w' => ∃ v, e = .returned v ∧ OwnF 60 w' w.heap.size v (allS l 0) ∧ Below w.heap.size w w' := by
  have R0 := Lib.hid hr
  unfold maxLen at hcm
  clear hr
  go_enter Try.func39, Try.ntmps39
  go_wp2
  go_loopw [3, 4] (fun v at_ wr => ∃ (k : Nat) (acc : List (Nat × Rec)), k ≤ l.length ∧ at_ = .int .i64 k ∧ acc.length ≤ k ∧ acc ++ allS l k = allS l 0 ∧ OwnF 60 wr w.heap.size v acc ∧ Below w.heap.size w wr) (fun _ at_ _ => l.length - (intOf at_).toNat)
  case atStart => exact ⟨0, [], by omega, rfl, by simp, by simp, OwnF.nil _ _ _, Below.refl _ _⟩
  case round =>
    obtain ⟨k, acc, hk, rfl, hacc, hall, own, bel⟩ := hrel
    have Hall := Lib.hid hall
    clear hall
    by_cases hlt : k < l.length
    · obtain ⟨b, off, rfl, hb, hcell⟩ := Rd.at_ R0.out (k := k) (by simpa using hlt)
      clear hcell
      have hck : c ≠ k := by omega
      have hkc : (k : Int) ≤ (c : Int) := by omega
      have hkl : (k : Int) ≤ (l.length : Int) := by omega
      have hlc : (l.length : Int) ≤ (c : Int) := by omega
      have DK : ∀ W : World, RdB W W.heap.size (some ⟨b, off + k, none⟩) (l.drop k) → Calls Try.prog 31 #[.slice (some ⟨b, off + k, none⟩) (l.length - k) (c - k)] W fun e w' => e = .returned (recRes (dec (l.drop k))) ∧ Below W.heap.size W w' := fun W hr => by
        have h := decode_any (some ⟨b, off + k, none⟩) (c - k) (l.drop k) W hr (by rw [List.length_drop]; unfold maxLen; omega) (by rw [List.length_drop]; omega)
        rwa [List.length_drop] at h
      have DK' := Lib.hid DK
      have hrk := (R0.out.below bel).tailFrom k
      have hsz := bel.size
      clear DK
      go_wp2_with fail
      refine (DK'.out _ (Rd.mono hrk hsz)).mono ?_
      clear hrk
      obtain ⟨R, n, er, hx⟩ : ∃ R n er, dec (l.drop k) = (R, n, er) := ⟨_, _, _, rfl⟩
      rw [hx]
      rintro e w2 ⟨rfl, hb2⟩
      have own2 := own.below hb2
      have bel2 := bel.trans (hb2.mono hsz)
      have hsz2 := bel2.size
      have herr := dec_err (l.drop k)
      rw [hx] at herr
      simp only at herr
      have HX := Lib.hid hx
      clear own bel hb2 hx hsz
      unfold recRes Rec.cells
      by_cases h0 : er = 0
      · subst h0
        have hn := dec_ok (l := l.drop k) (by rw [HX.out])
        rw [HX.out, List.length_drop] at hn
        simp only at hn
        have hit := allS_hit hlt (by rw [HX.out])
        rw [HX.out] at hit
        have Hit := Lib.hid hit
        clear hit herr
        go_wp2_with (at_builtin; refine wpList_append_f 48 60 rfl (.tmp 24) (.tmp 28) rfl Try.underlying48 info_found w.heap.size u3 acc (k, R) (w2.heap.size + 1) rfl ((own2.below ((Below.refl _ _).alloc (Nat.le_refl _) _)).below ((Below.refl _ _).alloc (Nat.le_refl _) _)) rfl (Blk.new2 w2 _ _ _) (by omega) (by simp; omega) ?_; intro v3 w3 own3 g3)
        have bel3 : Below w.heap.size w w3 := ((bel2.alloc hsz2 _).alloc (by simp; omega) _).grown g3 (by simp; omega) (fun g hg => (own2.lt g hg).1)
        go_wp2
        go_roundw
        case rel => exact ⟨k + n, acc ++ [(k, R)], by omega, by go_num, by simp; omega, by rw [List.append_assoc, List.singleton_append, ← Hall.out, Hit.out], own3, bel3⟩
        case measure => simp [intOf]; omega
      · have miss := allS_miss hlt (by rw [HX.out]; exact h0)
        have Miss := Lib.hid miss
        have herr' : er = 4 ∨ er = 11 := by omega
        clear miss h0 herr
        rcases herr' with rfl | rfl
        all_goals
          go_wp2
          go_roundw
          case rel => exact ⟨k + 1, acc, by omega, by go_num, by omega, by rw [← Miss.out, Hall.out], own2.below ((Below.refl _ _).alloc (Nat.le_refl _) _), bel2.alloc hsz2 _⟩
          case measure => simp [intOf]; omega
    · obtain rfl : k = l.length := by omega
      have hend := allS_end (Nat.le_refl l.length)
      have HE := Lib.hid hend
      clear hend
      go_wp2
      go_ret
      exact ⟨_, rfl, by have h := Hall.out; rw [HE.out, List.append_nil] at h; rw [← h]; exact own, bel⟩

set_option maxRecDepth 100000 in
set_option maxHeartbeats 2000000 in
theorem refAll_any (A : Option Addr) (c : Nat) (l : List UInt8) (w : World) (hr : RdB w w.heap.size A l) (hc : l.length ≤ 100000) (hcc : l.length ≤ c) (hcm : c ≤ maxLen) :
    Calls Try.prog 40 #[.slice A l.length c] w fun e w' => ∃ v, e = .returned v ∧ OwnF 79 w' w.heap.size v (allS l 0) ∧ Below w.heap.size w w' := by
  have R0 := Lib.hid hr
  unfold maxLen at hcm
  clear hr
  go_enter Try.func40, Try.ntmps40
  go_wp2
  go_loopw [3, 4] (fun v at_ wr => ∃ (k : Nat) (acc : List (Nat × Rec)), k ≤ l.length ∧ at_ = .int .i64 k ∧ acc.length ≤ k ∧ acc ++ allS l k = allS l 0 ∧ OwnF 79 wr w.heap.size v acc ∧ Below w.heap.size w wr) (fun _ at_ _ => l.length - (intOf at_).toNat)
  case atStart => exact ⟨0, [], by omega, rfl, by simp, by simp, OwnF.nil _ _ _, Below.refl _ _⟩
  case round =>
    obtain ⟨k, acc, hk, rfl, hacc, hall, own, bel⟩ := hrel
    have Hall := Lib.hid hall
    clear hall
    by_cases hlt : k < l.length
    · obtain ⟨b, off, rfl, hb, hcell⟩ := Rd.at_ R0.out (k := k) (by simpa using hlt)
      clear hcell
      have hck : c ≠ k := by omega
      have hkc : (k : Int) ≤ (c : Int) := by omega
      have hkl : (k : Int) ≤ (l.length : Int) := by omega
      have hlc : (l.length : Int) ≤ (c : Int) := by omega
      have DK : ∀ W : World, RdB W W.heap.size (some ⟨b, off + k, none⟩) (l.drop k) → Calls Try.prog 57 #[.slice (some ⟨b, off + k, none⟩) (l.length - k) (c - k)] W fun e w' => e = .returned (recRes (dec (l.drop k))) ∧ Below W.heap.size W w' := fun W hr => by
        have h := refDecode_any (some ⟨b, off + k, none⟩) (c - k) (l.drop k) W hr (by rw [List.length_drop]; unfold maxLen; omega) (by rw [List.length_drop]; omega)
        rwa [List.length_drop] at h
      have DK' := Lib.hid DK
      have hrk := (R0.out.below bel).tailFrom k
      have hsz := bel.size
      clear DK
      go_wp2_with fail
      refine (DK'.out _ (Rd.mono hrk hsz)).mono ?_
      clear hrk
      obtain ⟨R, n, er, hx⟩ : ∃ R n er, dec (l.drop k) = (R, n, er) := ⟨_, _, _, rfl⟩
      rw [hx]
      rintro e w2 ⟨rfl, hb2⟩
      have own2 := own.below hb2
      have bel2 := bel.trans (hb2.mono hsz)
      have hsz2 := bel2.size
      have herr := dec_err (l.drop k)
      rw [hx] at herr
      simp only at herr
      have HX := Lib.hid hx
      clear own bel hb2 hx hsz
      unfold recRes Rec.cells
      by_cases h0 : er = 0
      · subst h0
        have hn := dec_ok (l := l.drop k) (by rw [HX.out])
        rw [HX.out, List.length_drop] at hn
        simp only at hn
        have hit := allS_hit hlt (by rw [HX.out])
        rw [HX.out] at hit
        have Hit := Lib.hid hit
        clear hit herr
        go_wp2_with (at_builtin; refine wpList_append_f 51 79 rfl (.tmp 22) (.tmp 26) rfl Try.underlying51 info_refFound w.heap.size u3 acc (k, R) (w2.heap.size + 1) rfl ((own2.below ((Below.refl _ _).alloc (Nat.le_refl _) _)).below ((Below.refl _ _).alloc (Nat.le_refl _) _)) rfl (Blk.new2 w2 _ _ _) (by omega) (by simp; omega) ?_; intro v3 w3 own3 g3)
        have bel3 : Below w.heap.size w w3 := ((bel2.alloc hsz2 _).alloc (by simp; omega) _).grown g3 (by simp; omega) (fun g hg => (own2.lt g hg).1)
        go_wp2
        go_roundw
        case rel => exact ⟨k + n, acc ++ [(k, R)], by omega, by go_num, by simp; omega, by rw [List.append_assoc, List.singleton_append, ← Hall.out, Hit.out], own3, bel3⟩
        case measure => simp [intOf]; omega
      · have miss := allS_miss hlt (by rw [HX.out]; exact h0)
        have Miss := Lib.hid miss
        have herr' : er = 4 ∨ er = 11 := by omega
        clear miss h0 herr
        rcases herr' with rfl | rfl
        all_goals
          go_wp2
          go_roundw
          case rel => exact ⟨k + 1, acc, by omega, by go_num, by omega, by rw [← Miss.out, Hall.out], own2.below ((Below.refl _ _).alloc (Nat.le_refl _) _), bel2.alloc hsz2 _⟩
          case measure => simp [intOf]; omega
    · obtain rfl : k = l.length := by omega
      have hend := allS_end (Nat.le_refl l.length)
      have HE := Lib.hid hend
      clear hend
      go_wp2
      go_ret
      exact ⟨_, rfl, by have h := Hall.out; rw [HE.out, List.append_nil] at h; rw [← h]; exact own, bel⟩

set_option maxRecDepth 100000 in
set_option maxHeartbeats 2000000 in
theorem scanFront_any (A : Option Addr) (c : Nat) (l : List UInt8) (w : World) (hr : RdB w w.heap.size A l) (hc : l.length ≤ 100000) (hcc : l.length ≤ c) (hcm : c ≤ maxLen) :
    Calls Try.prog 35 #[.slice A l.length c] w fun e w' => ∃ v, e = .returned (.tuple #[v, .int .i64 ((frontS l 0).2 : Int)]) ∧ OwnF 60 w' w.heap.size v (frontS l 0).1 ∧ Below w.heap.size w w' := by
  have R0 := Lib.hid hr
  unfold maxLen at hcm
  clear hr
  go_enter Try.func35, Try.ntmps35
  go_wp2
  go_loopw [4, 5] (fun v at_ wr => ∃ (k : Nat) (acc : List (Nat × Rec)), k ≤ l.length ∧ at_ = .int .i64 k ∧ acc.length ≤ k ∧ (acc ++ (frontS l k).1 = (frontS l 0).1 ∧ (frontS l k).2 = (frontS l 0).2) ∧ OwnF 60 wr w.heap.size v acc ∧ Below w.heap.size w wr) (fun _ at_ _ => l.length - (intOf at_).toNat)
  case atStart => exact ⟨0, [], by omega, rfl, by simp, by simp, OwnF.nil _ _ _, Below.refl _ _⟩
  case round =>
    obtain ⟨k, acc, hk, rfl, hacc, hall, own, bel⟩ := hrel
    have Hall := Lib.hid hall
    clear hall
    by_cases hlt : k < l.length
    · obtain ⟨b, off, rfl, hb, hcell⟩ := Rd.at_ R0.out (k := k) (by simpa using hlt)
      clear hcell
      have hck : c ≠ k := by omega
      have hkc : (k : Int) ≤ (c : Int) := by omega
      have hkl : (k : Int) ≤ (l.length : Int) := by omega
      have hlc : (l.length : Int) ≤ (c : Int) := by omega
      have DK : ∀ W : World, RdB W W.heap.size (some ⟨b, off + k, none⟩) (l.drop k) → Calls Try.prog 31 #[.slice (some ⟨b, off + k, none⟩) (l.length - k) (c - k)] W fun e w' => e = .returned (recRes (dec (l.drop k))) ∧ Below W.heap.size W w' := fun W hr => by
        have h := decode_any (some ⟨b, off + k, none⟩) (c - k) (l.drop k) W hr (by rw [List.length_drop]; unfold maxLen; omega) (by rw [List.length_drop]; omega)
        rwa [List.length_drop] at h
      have DK' := Lib.hid DK
      have hrk := (R0.out.below bel).tailFrom k
      have hsz := bel.size
      clear DK
      go_wp2_with fail
      refine (DK'.out _ (Rd.mono hrk hsz)).mono ?_
      clear hrk
      obtain ⟨R, n, er, hx⟩ : ∃ R n er, dec (l.drop k) = (R, n, er) := ⟨_, _, _, rfl⟩
      rw [hx]
      rintro e w2 ⟨rfl, hb2⟩
      have own2 := own.below hb2
      have bel2 := bel.trans (hb2.mono hsz)
      have hsz2 := bel2.size
      have herr := dec_err (l.drop k)
      rw [hx] at herr
      simp only at herr
      have HX := Lib.hid hx
      clear own bel hb2 hx hsz
      unfold recRes Rec.cells
      by_cases h0 : er = 0
      · subst h0
        have hn := dec_ok (l := l.drop k) (by rw [HX.out])
        rw [HX.out, List.length_drop] at hn
        simp only at hn
        have hit := frontS_hit hlt (by rw [HX.out])
        rw [HX.out] at hit
        have Hit := Lib.hid hit
        clear hit herr
        go_wp2_with (at_builtin; refine wpList_append_f 48 60 rfl (.tmp 23) (.tmp 27) rfl Try.underlying48 info_found w.heap.size u4 acc (k, R) (w2.heap.size + 1) rfl ((own2.below ((Below.refl _ _).alloc (Nat.le_refl _) _)).below ((Below.refl _ _).alloc (Nat.le_refl _) _)) rfl (Blk.new2 w2 _ _ _) (by omega) (by simp; omega) ?_; intro v3 w3 own3 g3)
        have bel3 : Below w.heap.size w w3 := ((bel2.alloc hsz2 _).alloc (by simp; omega) _).grown g3 (by simp; omega) (fun g hg => (own2.lt g hg).1)
        go_wp2
        go_roundw
        case rel => exact ⟨k + n, acc ++ [(k, R)], by omega, by go_num, by simp; omega, ⟨by rw [List.append_assoc, List.singleton_append, ← Hall.out.1, Hit.out], by rw [← Hall.out.2, Hit.out]⟩, own3, bel3⟩
        case measure => simp [intOf]; omega
      · have miss := frontS_miss (l := l) (k := k) (by rw [HX.out]; exact h0)
        have Miss := Lib.hid miss
        have herr' : er = 4 ∨ er = 11 := by omega
        clear miss h0 herr
        rcases herr' with rfl | rfl
        all_goals
          go_wp2
          go_ret2
          have hk2 : (frontS l 0).2 = k := by rw [← Hall.out.2, Miss.out]
          have hk1 : (frontS l 0).1 = acc := by rw [← Hall.out.1, Miss.out, List.append_nil]
          refine ⟨u4, by rw [hk2]; rfl, ?_, bel2.alloc hsz2 _⟩
          rw [hk1]
          exact own2.below ((Below.refl _ _).alloc (Nat.le_refl _) _)
    · obtain rfl : k = l.length := by omega
      have hend := frontS_end (Nat.le_refl l.length)
      have HE := Lib.hid hend
      clear hend
      go_wp2
      go_ret2
      have hk2 : (frontS l 0).2 = l.length := by rw [← Hall.out.2, HE.out]
      have hk1 : (frontS l 0).1 = acc := by rw [← Hall.out.1, HE.out, List.append_nil]
      refine ⟨u4, by rw [hk2]; rfl, ?_, bel⟩
      rw [hk1]
      exact own

set_option maxRecDepth 100000 in
set_option maxHeartbeats 2000000 in
theorem refFront_any (A : Option Addr) (c : Nat) (l : List UInt8) (w : World) (hr : RdB w w.heap.size A l) (hc : l.length ≤ 100000) (hcc : l.length ≤ c) (hcm : c ≤ maxLen) :
    Calls Try.prog 36 #[.slice A l.length c] w fun e w' => ∃ v, e = .returned (.tuple #[v, .int .i64 ((frontS l 0).2 : Int)]) ∧ OwnF 79 w' w.heap.size v (frontS l 0).1 ∧ Below w.heap.size w w' := by
  have R0 := Lib.hid hr
  unfold maxLen at hcm
  clear hr
  go_enter Try.func36, Try.ntmps36
  go_wp2
  go_loopw [4, 5] (fun v at_ wr => ∃ (k : Nat) (acc : List (Nat × Rec)), k ≤ l.length ∧ at_ = .int .i64 k ∧ acc.length ≤ k ∧ (acc ++ (frontS l k).1 = (frontS l 0).1 ∧ (frontS l k).2 = (frontS l 0).2) ∧ OwnF 79 wr w.heap.size v acc ∧ Below w.heap.size w wr) (fun _ at_ _ => l.length - (intOf at_).toNat)
  case atStart => exact ⟨0, [], by omega, rfl, by simp, by simp, OwnF.nil _ _ _, Below.refl _ _⟩
  case round =>
    obtain ⟨k, acc, hk, rfl, hacc, hall, own, bel⟩ := hrel
    have Hall := Lib.hid hall
    clear hall
    by_cases hlt : k < l.length
    · obtain ⟨b, off, rfl, hb, hcell⟩ := Rd.at_ R0.out (k := k) (by simpa using hlt)
      clear hcell
      have hck : c ≠ k := by omega
      have hkc : (k : Int) ≤ (c : Int) := by omega
      have hkl : (k : Int) ≤ (l.length : Int) := by omega
      have hlc : (l.length : Int) ≤ (c : Int) := by omega
      have DK : ∀ W : World, RdB W W.heap.size (some ⟨b, off + k, none⟩) (l.drop k) → Calls Try.prog 57 #[.slice (some ⟨b, off + k, none⟩) (l.length - k) (c - k)] W fun e w' => e = .returned (recRes (dec (l.drop k))) ∧ Below W.heap.size W w' := fun W hr => by
        have h := refDecode_any (some ⟨b, off + k, none⟩) (c - k) (l.drop k) W hr (by rw [List.length_drop]; unfold maxLen; omega) (by rw [List.length_drop]; omega)
        rwa [List.length_drop] at h
      have DK' := Lib.hid DK
      have hrk := (R0.out.below bel).tailFrom k
      have hsz := bel.size
      clear DK
      go_wp2_with fail
      refine (DK'.out _ (Rd.mono hrk hsz)).mono ?_
      clear hrk
      obtain ⟨R, n, er, hx⟩ : ∃ R n er, dec (l.drop k) = (R, n, er) := ⟨_, _, _, rfl⟩
      rw [hx]
      rintro e w2 ⟨rfl, hb2⟩
      have own2 := own.below hb2
      have bel2 := bel.trans (hb2.mono hsz)
      have hsz2 := bel2.size
      have herr := dec_err (l.drop k)
      rw [hx] at herr
      simp only at herr
      have HX := Lib.hid hx
      clear own bel hb2 hx hsz
      unfold recRes Rec.cells
      by_cases h0 : er = 0
      · subst h0
        have hn := dec_ok (l := l.drop k) (by rw [HX.out])
        rw [HX.out, List.length_drop] at hn
        simp only at hn
        have hit := frontS_hit hlt (by rw [HX.out])
        rw [HX.out] at hit
        have Hit := Lib.hid hit
        clear hit herr
        go_wp2_with (at_builtin; refine wpList_append_f 51 79 rfl (.tmp 21) (.tmp 25) rfl Try.underlying51 info_refFound w.heap.size u4 acc (k, R) (w2.heap.size + 1) rfl ((own2.below ((Below.refl _ _).alloc (Nat.le_refl _) _)).below ((Below.refl _ _).alloc (Nat.le_refl _) _)) rfl (Blk.new2 w2 _ _ _) (by omega) (by simp; omega) ?_; intro v3 w3 own3 g3)
        have bel3 : Below w.heap.size w w3 := ((bel2.alloc hsz2 _).alloc (by simp; omega) _).grown g3 (by simp; omega) (fun g hg => (own2.lt g hg).1)
        go_wp2
        go_roundw
        case rel => exact ⟨k + n, acc ++ [(k, R)], by omega, by go_num, by simp; omega, ⟨by rw [List.append_assoc, List.singleton_append, ← Hall.out.1, Hit.out], by rw [← Hall.out.2, Hit.out]⟩, own3, bel3⟩
        case measure => simp [intOf]; omega
      · have miss := frontS_miss (l := l) (k := k) (by rw [HX.out]; exact h0)
        have Miss := Lib.hid miss
        have herr' : er = 4 ∨ er = 11 := by omega
        clear miss h0 herr
        rcases herr' with rfl | rfl
        all_goals
          go_wp2
          go_ret2
          have hk2 : (frontS l 0).2 = k := by rw [← Hall.out.2, Miss.out]
          have hk1 : (frontS l 0).1 = acc := by rw [← Hall.out.1, Miss.out, List.append_nil]
          refine ⟨u4, by rw [hk2]; rfl, ?_, bel2.alloc hsz2 _⟩
          rw [hk1]
          exact own2.below ((Below.refl _ _).alloc (Nat.le_refl _) _)
    · obtain rfl : k = l.length := by omega
      have hend := frontS_end (Nat.le_refl l.length)
      have HE := Lib.hid hend
      clear hend
      have hd0 : dec [] = (zeroRec, 0, 11) := dec_more [] (by simp [beg]) (by simp)
      have DK : ∀ (W : World) (A' : Option Addr) (c' : Nat), Calls Try.prog 57 #[.slice A' 0 c'] W fun e w' => e = .returned (.tuple #[.agg #[.int .i64 0, .int .u32 0, .int .u64 0, .int .u64 0, .int .u64 0, .string ⟨#[]⟩], .int .i64 0, .int .i64 11]) ∧ Below W.heap.size W w' := fun W A' c' => by
        have h := refDecode_any A' c' [] W (Rd.nil _ _ _) (by simp) (by simp)
        rw [hd0] at h
        exact h
      have DK' := Lib.hid DK
      clear DK hd0
      have hsz := bel.size
      have hlc : (l.length : Int) ≤ (c : Int) := by omega
      have hk2 : (frontS l 0).2 = l.length := by rw [← Hall.out.2, HE.out]
      have hk1 : (frontS l 0).1 = acc := by rw [← Hall.out.1, HE.out, List.append_nil]
      have HK2 := Lib.hid hk2
      have HK1 := Lib.hid hk1
      clear hk2 hk1
      rcases A with _ | ⟨b, off, sp⟩
      all_goals
        go_wp2_with fail
        all_goals
          refine (DK'.out _ _ _).mono ?_
          rintro e w2 ⟨rfl, hb2⟩
          have own2 := own.below hb2
          have bel2 := bel.trans (hb2.mono hsz)
          have hsz2 := bel2.size
          go_wp2
          go_ret2
          refine ⟨u4, by rw [HK2.out]; rfl, ?_, bel2.alloc hsz2 _⟩
          rw [HK1.out]
          exact own2.below ((Below.refl _ _).alloc (Nat.le_refl _) _)
end Go.Proofs.Ytehhgfkbcjbciaa
