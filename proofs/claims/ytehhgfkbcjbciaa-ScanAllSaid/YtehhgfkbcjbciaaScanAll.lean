/- The walk of ScanAll. -/
import Derived.Test.YtehhgfkbcjbciaaGood
namespace Go.Proofs.Ytehhgfkbcjbciaa
open Go.RowKit

theorem OwnB.lt {w : World} {base : Nat} {v : Value} {l : List UInt8} (h : OwnB w base v l) : ∀ g, v.ownBlock = some g → base ≤ g ∧ g < w.heap.size := World.ownsRow.lt h

theorem OwnB.form {w : World} {base : Nat} {v : Value} {l : List UInt8} (h : OwnB w base v l) : (v = .slice none 0 0 ∧ l = []) ∨ ∃ g cap, v = .slice (some ⟨g, 0, none⟩) l.length cap ∧ l.length ≤ cap ∧ cap ≤ maxLen ∧ base ≤ g := by
  rcases h.2 with ⟨hv, hn⟩ | ⟨g, cap, cur, hv, hb, hg, hnc, hcm, _⟩
  · exact .inl ⟨hv, List.eq_nil_of_length_eq_zero hn⟩
  · exact .inr ⟨g, cap, hv, hnc, hcm, hb⟩

theorem frontS_len (b : List UInt8) : ∀ m k, b.length - k ≤ m → (frontS b k).1.length ≤ b.length - k := by
  intro m
  induction m with
  | zero => intro k hk; rw [frontS_end (by omega)]; simp
  | succ m ih =>
    intro k hk
    by_cases hlt : k < b.length
    · by_cases h0 : (dec (b.drop k)).2.2 = 0
      · have hn := (dec_ok h0).1
        rw [frontS_hit hlt h0]
        have := ih (k + (dec (b.drop k)).2.1) (by omega)
        simp only [List.length_cons]
        omega
      · rw [frontS_miss h0]; simp
    · rw [frontS_end (by omega)]; simp

set_option maxRecDepth 100000 in
set_option maxHeartbeats 4000000 in
theorem scanAll_walk (A0 A1 : Option Addr) (c0 c1 : Nat) (l0 : List Rec) (J : List (Option Addr × Nat × List UInt8)) (at_ : Int) (x : UInt8) (w : World) (hc0 : l0.length ≤ c0) (hm0 : c0 ≤ maxLen) (hc1 : J.length ≤ c1) (hm1 : c1 ≤ maxLen)
    (r0 : RdR w w.heap.size A0 l0) (ok0 : ∀ R ∈ l0, R.Ok ∧ R.body.size ≤ maxLen) (r1 : Rd w w.heap.size A1 (J.map BV)) (ok1 : ∀ y ∈ J, y.2.2.length ≤ y.2.1 ∧ y.2.1 ≤ maxLen ∧ RdB w w.heap.size y.1 y.2.2) (hat : at_ ≤ 9223372036854775807) :
    Calls Try.prog 10 #[.slice A0 l0.length c0, .slice A1 J.length c1, .int .i64 at_, .int .u8 (x.toNat : Int)] w fun e w' => e = .returned (.bool true) ∧ Below w.heap.size w w' := by
  have R0 := Lib.hid r0
  have OK0 := Lib.hid ok0
  have R1 := Lib.hid r1
  have OK1 := Lib.hid ok1
  have hl0 : l0.length ≤ 9223372036854775807 := by unfold maxLen at hm0; omega
  have hJ : J.length ≤ 9223372036854775807 := by unfold maxLen at hm1; omega
  clear r0 ok0 r1 ok1 hc0 hm0 hc1 hm1
  go_enter Try.func10, Try.ntmps10
  go_wp2_with fail
  refine (begun7_any _).mono ?_
  rintro e w1 ⟨rfl, hb1⟩
  have hz1 := hb1.size
  go_wp2_with fail
  refine (good_any A0 c0 l0 w1 (Rd.mono (Rd.below R0.out hb1) hz1) hl0 OK0.out).mono ?_
  rintro e w2 ⟨v2, L, rfl, own2, hL6, hLok, hb2⟩
  obtain ⟨A2, c2, rfl, _, _, r2, _⟩ := own2.slice
  have bel2 := hb1.trans (hb2.mono hz1)
  have hz2 := bel2.size
  have RL := Lib.hid (show RdR w2 w2.heap.size A2 L from r2)
  have OKL := Lib.hid hLok
  clear own2 r2 hb1 hb2 hLok
  go_wp2_with fail
  go_loopw [10, 11] (fun v i wr => ∃ (k : Nat) (bl : List UInt8), k ≤ L.length ∧ i = .int .i64 k ∧ bl.length ≤ 300 * k ∧ OwnB wr w2.heap.size v bl ∧ Below w2.heap.size w2 wr) (fun _ i _ => L.length - (intOf i).toNat)
  case atStart => exact ⟨0, [], by omega, rfl, by simp, OwnB.nil _ _, Below.refl _ _⟩
  case round =>
    obtain ⟨k, bl, hk, rfl, hbl, own, bel⟩ := hrel
    have hsz := bel.size
    by_cases hlt : k < L.length
    · have hkl : (k : Int) < (L.length : Int) := by omega
      obtain ⟨okk, szk⟩ := OKL.out L[k] (List.getElem_mem hlt)
      have EA := Lib.hid (fun W => refEncode_any L[k] W okk (Nat.le_trans szk (by decide)))
      unfold Rec.cells at EA
      have hel : (enc L[k]).length ≤ 239 := by
        cases hm : L[k].may with
        | true => rw [enc_len _ hm]; omega
        | false => rw [enc_no _ hm]; simp
      obtain ⟨bL, offL, rfl, hbL, h6⟩ := RL.out.at_ hlt
      have H6 := Lib.hid h6
      clear okk szk h6
      by_cases hj : k < J.length
      · obtain ⟨bj, offj, rfl, hbj, hcj⟩ := Rd.at_ R1.out (k := k) (by simpa using hj)
        simp only [List.getElem_map] at hcj
        obtain ⟨j1, j2, j3⟩ := OK1.out J[k] (List.getElem_mem hj)
        generalize J[k] = jk at *
        obtain ⟨Aj, cj, lj⟩ := jk
        simp only at j1 j2 j3
        unfold BV at hcj
        simp only at hcj
        have belw := bel2.trans (bel.mono hz2)
        have q := (belw.cell (p := ⟨bj, offj + k, none⟩) hbj).trans hcj
        have hkj : (k : Int) < (J.length : Int) := by omega
        have rj := Lib.hid (Rd.below j3 belw)
        clear hcj j3
        go_wp2_with fail
        refine (short_any Aj lj.length cj 15 lj _ w.heap.size rfl j1 j2 (by omega) rj.out).mono ?_
        rintro e w' ⟨⟨rfl, rs⟩, rfl⟩
        have hs15 : (lj.take 15).length ≤ 15 := List.length_take_le _ _
        generalize lj.take 15 = sj at *
        clear q rj j1 j2
        go_wp2_with (at_builtin; refine wpList_append_u8 rfl (.tmp 31) (.tmp 36) rfl w2.heap.size u10 bl rfl own w.heap.size Aj sj.length cj sj rfl rfl rs (by omega) hsz ?_; intro vB wB ownB gB; have belB : Below w2.heap.size w2 wB := bel.grown gB hsz (fun g hg => (own.lt g hg).1); have q := H6.out.keep belB hbL; unfold Six at q; obtain ⟨q0, q1, q2, q3, q4, q5⟩ := q)
        have hlB : (bl ++ sj).length ≤ 300 * k + 15 := by rw [List.length_append]; omega
        clear own gB
        refine (EA.out _).mono ?_
        rintro e w8 ⟨v8, rfl, own8, hb8⟩
        obtain ⟨A8, c8, rfl, _, _, r8, _⟩ := own8.slice
        have own9 := ownB.below hb8
        have bel9 := belB.trans (hb8.mono belB.size)
        have hz9 := bel9.size
        clear own8 hb8 EA q0 q1 q2 q3 q4 q5
        obtain ⟨E, hE⟩ : ∃ E, enc L[k] = E := ⟨_, rfl⟩
        rw [hE] at r8 hel ⊢
        clear hE
        go_wp2_with (at_builtin; refine wpList_append_u8 rfl (.tmp 38) (.tmp 43) rfl w2.heap.size vB _ rfl own9 w8.heap.size A8 E.length c8 E rfl rfl r8 (by omega) hz9 ?_; intro v10 w10 own10 g10)
        have bel10 : Below w2.heap.size w2 w10 := bel9.grown g10 hz9 (fun g hg => (own9.lt g hg).1)
        go_wp2
        go_roundw
        case rel => exact ⟨k + 1, _, by omega, by go_num, by rw [List.length_append]; omega, own10, bel10⟩
        case measure => simp [intOf]; omega
      · have q := H6.out.keep bel hbL
        unfold Six at q
        obtain ⟨q0, q1, q2, q3, q4, q5⟩ := q
        have ownB := own
        have belB := bel
        clear own
        go_wp2_with fail
        refine (EA.out _).mono ?_
        rintro e w8 ⟨v8, rfl, own8, hb8⟩
        obtain ⟨A8, c8, rfl, _, _, r8, _⟩ := own8.slice
        have own9 := ownB.below hb8
        have bel9 := belB.trans (hb8.mono belB.size)
        have hz9 := bel9.size
        clear own8 hb8 EA q0 q1 q2 q3 q4 q5
        obtain ⟨E, hE⟩ : ∃ E, enc L[k] = E := ⟨_, rfl⟩
        rw [hE] at r8 hel ⊢
        clear hE
        go_wp2_with (at_builtin; refine wpList_append_u8 rfl (.tmp 38) (.tmp 43) rfl w2.heap.size u10 _ rfl own9 w8.heap.size A8 E.length c8 E rfl rfl r8 (by omega) hz9 ?_; intro v10 w10 own10 g10)
        have bel10 : Below w2.heap.size w2 w10 := bel9.grown g10 hz9 (fun g hg => (own9.lt g hg).1)
        go_wp2
        go_roundw
        case rel => exact ⟨k + 1, _, by omega, by go_num, by rw [List.length_append]; omega, own10, bel10⟩
        case measure => simp [intOf]; omega
    · obtain rfl : k = L.length := by omega
      clear RL OKL hJ
      have belw := bel2.trans (bel.mono hz2)
      rcases own.form with ⟨rfl, rfl⟩ | ⟨g, cap, rfl, hcap, hcm, hg⟩
      · have RT := Lib.hid (Rd.nil wr wr.heap.size none : RdB wr wr.heap.size none [])
        have hbT : ([] : List UInt8).length ≤ 100000 := by simp
        have hcT : ([] : List UInt8).length ≤ 0 := by simp
        have hmT : 0 ≤ maxLen := by simp
        have belT := belw
        clear own bel belw hbl
        go_upto_region 14 with fail
        go_wp2_with fail
        refine (scanFront_any none 0 ([] : List UInt8) wr RT.out hbT hcT hmT).mono ?_
        rintro e x1 ⟨y1, rfl, o1, h1⟩
        obtain ⟨A1', c1', rfl, _, _, f1, _⟩ := o1.slice
        have S1 := Lib.hid (Rd.mono (Rd.below RT.out h1) h1.size)
        have F1 := Lib.hid (show RdF x1 x1.heap.size A1' (frontS ([] : List UInt8) 0).1 from f1)
        have B1 := belT.trans (h1.mono belT.size)
        clear o1 f1 h1
        go_wp2_with fail
        refine (refFront_any none 0 ([] : List UInt8) x1 S1.out hbT hcT hmT).mono ?_
        rintro e x2 ⟨y2, rfl, o2, h2⟩
        obtain ⟨A2', c2', rfl, _, _, f2, _⟩ := o2.slice
        have S2 := Lib.hid (Rd.mono (Rd.below S1.out h2) h2.size)
        have F2 := Lib.hid (show RdF x2 x2.heap.size A2' (frontS ([] : List UInt8) 0).1 from f2)
        have G1 := Lib.hid (Rd.mono (Rd.below F1.out h2) h2.size)
        have B2 := B1.trans (h2.mono B1.size)
        clear o2 f2 h2
        have hfl : (frontS ([] : List UInt8) 0).1.length ≤ 100000 := by have := frontS_len ([] : List UInt8) ([] : List UInt8).length 0 (by omega); omega
        have hal : (allS ([] : List UInt8) 0).length ≤ 100000 := by have := allS_len ([] : List UInt8) ([] : List UInt8).length 0 (by omega); omega
        generalize hFR : frontS ([] : List UInt8) 0 = FR at *
        obtain ⟨FL, fk⟩ := FR
        simp only at hfl
        have HFR := Lib.hid hFR
        clear hFR
        go_wp2_with fail
        refine (scanAll_any none 0 ([] : List UInt8) x2 S2.out hbT hcT hmT).mono ?_
        rintro e x3 ⟨y3, rfl, o3, h3⟩
        generalize hAL : allS ([] : List UInt8) 0 = AL at *
        obtain ⟨A3', c3', rfl, _, _, f3, _⟩ := o3.slice
        have S3 := Lib.hid (Rd.mono (Rd.below S2.out h3) h3.size)
        have F3 := Lib.hid (show RdF x3 x3.heap.size A3' AL from f3)
        have G3 := Lib.hid (Rd.mono (Rd.below F2.out h3) h3.size)
        have K3 := Lib.hid (Rd.mono (Rd.below G1.out h3) h3.size)
        have B3 := B2.trans (h3.mono B2.size)
        have HAL := Lib.hid hAL
        clear o3 f3 h3 hAL
        go_wp2_with fail
        refine (found_any A3' c3' AL x3 F3.out hal).mono ?_
        rintro e x4 ⟨y4, rfl, o4, h4⟩
        obtain ⟨A4', c4', rfl, _, _, f4, _⟩ := o4.slice
        have S4 := Lib.hid (Rd.mono (Rd.below S3.out h4) h4.size)
        have F4 := Lib.hid (show RdF x4 x4.heap.size A4' AL from f4)
        have G4 := Lib.hid (Rd.mono (Rd.below G3.out h4) h4.size)
        have K4 := Lib.hid (Rd.mono (Rd.below K3.out h4) h4.size)
        have B4 := B3.trans (h4.mono B3.size)
        clear o4 f4 h4
        go_wp2_with fail
        refine (refAll_any none 0 ([] : List UInt8) x4 S4.out hbT hcT hmT).mono ?_
        rintro e x5 ⟨y5, rfl, o5, h5⟩
        rw [HAL.out] at o5
        obtain ⟨A5', c5', rfl, _, _, f5, _⟩ := o5.slice
        have F5 := Lib.hid (show RdF x5 x5.heap.size A5' AL from f5)
        have M5 := Lib.hid (show RdF x5 x5.heap.size A4' AL from Rd.mono (Rd.below F4.out h5) h5.size)
        have G5 := Lib.hid (show RdF x5 x5.heap.size A2' FL from Rd.mono (Rd.below G4.out h5) h5.size)
        have K5 := Lib.hid (show RdF x5 x5.heap.size A1' FL from Rd.mono (Rd.below K4.out h5) h5.size)
        have B5 := B4.trans (h5.mono B4.size)
        clear o5 f5 h5
        go_wp2_with fail
        refine (eqAll_same A4' A5' c4' c5' AL x5 M5.out F5.out hal).mono ?_
        rintro e x6 ⟨rfl, h6⟩
        have G6 := Lib.hid (show RdF x6 x6.heap.size A2' FL from Rd.mono (Rd.below G5.out h6) h6.size)
        have K6 := Lib.hid (show RdF x6 x6.heap.size A1' FL from Rd.mono (Rd.below K5.out h6) h6.size)
        have B6 := B5.trans (h6.mono B5.size)
        clear h6
        go_wp2_with fail
        refine (found_any A1' c1' FL x6 K6.out hfl).mono ?_
        rintro e x7 ⟨y7, rfl, o7, h7⟩
        obtain ⟨A7', c7', rfl, _, _, f7, _⟩ := o7.slice
        have F7 := Lib.hid (show RdF x7 x7.heap.size A7' FL from f7)
        have G7 := Lib.hid (show RdF x7 x7.heap.size A2' FL from Rd.mono (Rd.below G6.out h7) h7.size)
        have B7 := B6.trans (h7.mono B6.size)
        clear o7 f7 h7
        go_wp2_with fail
        refine (eqAll_same A7' A2' c7' c2' FL x7 F7.out G7.out hfl).mono ?_
        rintro e x8 ⟨rfl, h8⟩
        go_wp2
        go_ret
        exact ⟨by first | rfl | simp, B7.trans (h8.mono B7.size)⟩
      · have hb18 : bl.length ≤ 1800 := by omega
        by_cases hpos : 0 < bl.length
        · by_cases hat0 : 0 ≤ at_
          · obtain ⟨m, hm⟩ := Int.eq_ofNat_of_zero_le (Int.emod_nonneg at_ (show (bl.length : Int) ≠ 0 by omega))
            have hml : m < bl.length := by have := Int.emod_lt_of_pos at_ (show (0 : Int) < (bl.length : Int) by omega); omega
            have hmi : (m : Int) < (bl.length : Int) := by omega
            have q := own.cell m hml
            have fz := own.frozen m
            go_upto_region 14 with fail
            rw [u8_xorB]
            have ownT := own.store m (bl[m] ^^^ x)
            have belT : Below w.heap.size w (wr.setCell ⟨g, m, none⟩ (B (bl[m] ^^^ x))) := belw.setCell (p := ⟨g, m, none⟩) (by simp; omega) _
            have hlT : (bl.set m (bl[m] ^^^ x)).length = bl.length := List.length_set
            have ownT' := ownT.rd
            unfold B at ownT' belT
            clear ownT own bel belw q fz hm
            generalize wr.setCell ⟨g, m, none⟩ (.int .u8 ((bl[m] ^^^ x).toNat : Int)) = wT at *
            generalize bl.set m (bl[m] ^^^ x) = bT at *
            rw [← hlT] at hcap hb18 ⊢
            have RT := Lib.hid ownT'
            have hbT : bT.length ≤ 100000 := by omega
            have hcT := hcap
            have hmT := hcm
            clear ownT' hlT
            go_wp2_with fail
            refine (scanFront_any (some ⟨g, 0, none⟩) cap bT wT RT.out hbT hcT hmT).mono ?_
            rintro e x1 ⟨y1, rfl, o1, h1⟩
            obtain ⟨A1', c1', rfl, _, _, f1, _⟩ := o1.slice
            have S1 := Lib.hid (Rd.mono (Rd.below RT.out h1) h1.size)
            have F1 := Lib.hid (show RdF x1 x1.heap.size A1' (frontS bT 0).1 from f1)
            have B1 := belT.trans (h1.mono belT.size)
            clear o1 f1 h1
            go_wp2_with fail
            refine (refFront_any (some ⟨g, 0, none⟩) cap bT x1 S1.out hbT hcT hmT).mono ?_
            rintro e x2 ⟨y2, rfl, o2, h2⟩
            obtain ⟨A2', c2', rfl, _, _, f2, _⟩ := o2.slice
            have S2 := Lib.hid (Rd.mono (Rd.below S1.out h2) h2.size)
            have F2 := Lib.hid (show RdF x2 x2.heap.size A2' (frontS bT 0).1 from f2)
            have G1 := Lib.hid (Rd.mono (Rd.below F1.out h2) h2.size)
            have B2 := B1.trans (h2.mono B1.size)
            clear o2 f2 h2
            have hfl : (frontS bT 0).1.length ≤ 100000 := by have := frontS_len bT bT.length 0 (by omega); omega
            have hal : (allS bT 0).length ≤ 100000 := by have := allS_len bT bT.length 0 (by omega); omega
            generalize hFR : frontS bT 0 = FR at *
            obtain ⟨FL, fk⟩ := FR
            simp only at hfl
            have HFR := Lib.hid hFR
            clear hFR
            go_wp2_with fail
            refine (scanAll_any (some ⟨g, 0, none⟩) cap bT x2 S2.out hbT hcT hmT).mono ?_
            rintro e x3 ⟨y3, rfl, o3, h3⟩
            generalize hAL : allS bT 0 = AL at *
            obtain ⟨A3', c3', rfl, _, _, f3, _⟩ := o3.slice
            have S3 := Lib.hid (Rd.mono (Rd.below S2.out h3) h3.size)
            have F3 := Lib.hid (show RdF x3 x3.heap.size A3' AL from f3)
            have G3 := Lib.hid (Rd.mono (Rd.below F2.out h3) h3.size)
            have K3 := Lib.hid (Rd.mono (Rd.below G1.out h3) h3.size)
            have B3 := B2.trans (h3.mono B2.size)
            have HAL := Lib.hid hAL
            clear o3 f3 h3 hAL
            go_wp2_with fail
            refine (found_any A3' c3' AL x3 F3.out hal).mono ?_
            rintro e x4 ⟨y4, rfl, o4, h4⟩
            obtain ⟨A4', c4', rfl, _, _, f4, _⟩ := o4.slice
            have S4 := Lib.hid (Rd.mono (Rd.below S3.out h4) h4.size)
            have F4 := Lib.hid (show RdF x4 x4.heap.size A4' AL from f4)
            have G4 := Lib.hid (Rd.mono (Rd.below G3.out h4) h4.size)
            have K4 := Lib.hid (Rd.mono (Rd.below K3.out h4) h4.size)
            have B4 := B3.trans (h4.mono B3.size)
            clear o4 f4 h4
            go_wp2_with fail
            refine (refAll_any (some ⟨g, 0, none⟩) cap bT x4 S4.out hbT hcT hmT).mono ?_
            rintro e x5 ⟨y5, rfl, o5, h5⟩
            rw [HAL.out] at o5
            obtain ⟨A5', c5', rfl, _, _, f5, _⟩ := o5.slice
            have F5 := Lib.hid (show RdF x5 x5.heap.size A5' AL from f5)
            have M5 := Lib.hid (show RdF x5 x5.heap.size A4' AL from Rd.mono (Rd.below F4.out h5) h5.size)
            have G5 := Lib.hid (show RdF x5 x5.heap.size A2' FL from Rd.mono (Rd.below G4.out h5) h5.size)
            have K5 := Lib.hid (show RdF x5 x5.heap.size A1' FL from Rd.mono (Rd.below K4.out h5) h5.size)
            have B5 := B4.trans (h5.mono B4.size)
            clear o5 f5 h5
            go_wp2_with fail
            refine (eqAll_same A4' A5' c4' c5' AL x5 M5.out F5.out hal).mono ?_
            rintro e x6 ⟨rfl, h6⟩
            have G6 := Lib.hid (show RdF x6 x6.heap.size A2' FL from Rd.mono (Rd.below G5.out h6) h6.size)
            have K6 := Lib.hid (show RdF x6 x6.heap.size A1' FL from Rd.mono (Rd.below K5.out h6) h6.size)
            have B6 := B5.trans (h6.mono B5.size)
            clear h6
            go_wp2_with fail
            refine (found_any A1' c1' FL x6 K6.out hfl).mono ?_
            rintro e x7 ⟨y7, rfl, o7, h7⟩
            obtain ⟨A7', c7', rfl, _, _, f7, _⟩ := o7.slice
            have F7 := Lib.hid (show RdF x7 x7.heap.size A7' FL from f7)
            have G7 := Lib.hid (show RdF x7 x7.heap.size A2' FL from Rd.mono (Rd.below G6.out h7) h7.size)
            have B7 := B6.trans (h7.mono B6.size)
            clear o7 f7 h7
            go_wp2_with fail
            refine (eqAll_same A7' A2' c7' c2' FL x7 F7.out G7.out hfl).mono ?_
            rintro e x8 ⟨rfl, h8⟩
            go_wp2
            go_ret
            exact ⟨by first | rfl | simp, B7.trans (h8.mono B7.size)⟩
          · have RT := Lib.hid own.rd
            have hbT : bl.length ≤ 100000 := by omega
            have hcT := hcap
            have hmT := hcm
            have belT := belw
            clear own bel belw
            go_upto_region 14 with fail
            go_wp2_with fail
            refine (scanFront_any (some ⟨g, 0, none⟩) cap bl wr RT.out hbT hcT hmT).mono ?_
            rintro e x1 ⟨y1, rfl, o1, h1⟩
            obtain ⟨A1', c1', rfl, _, _, f1, _⟩ := o1.slice
            have S1 := Lib.hid (Rd.mono (Rd.below RT.out h1) h1.size)
            have F1 := Lib.hid (show RdF x1 x1.heap.size A1' (frontS bl 0).1 from f1)
            have B1 := belT.trans (h1.mono belT.size)
            clear o1 f1 h1
            go_wp2_with fail
            refine (refFront_any (some ⟨g, 0, none⟩) cap bl x1 S1.out hbT hcT hmT).mono ?_
            rintro e x2 ⟨y2, rfl, o2, h2⟩
            obtain ⟨A2', c2', rfl, _, _, f2, _⟩ := o2.slice
            have S2 := Lib.hid (Rd.mono (Rd.below S1.out h2) h2.size)
            have F2 := Lib.hid (show RdF x2 x2.heap.size A2' (frontS bl 0).1 from f2)
            have G1 := Lib.hid (Rd.mono (Rd.below F1.out h2) h2.size)
            have B2 := B1.trans (h2.mono B1.size)
            clear o2 f2 h2
            have hfl : (frontS bl 0).1.length ≤ 100000 := by have := frontS_len bl bl.length 0 (by omega); omega
            have hal : (allS bl 0).length ≤ 100000 := by have := allS_len bl bl.length 0 (by omega); omega
            generalize hFR : frontS bl 0 = FR at *
            obtain ⟨FL, fk⟩ := FR
            simp only at hfl
            have HFR := Lib.hid hFR
            clear hFR
            go_wp2_with fail
            refine (scanAll_any (some ⟨g, 0, none⟩) cap bl x2 S2.out hbT hcT hmT).mono ?_
            rintro e x3 ⟨y3, rfl, o3, h3⟩
            generalize hAL : allS bl 0 = AL at *
            obtain ⟨A3', c3', rfl, _, _, f3, _⟩ := o3.slice
            have S3 := Lib.hid (Rd.mono (Rd.below S2.out h3) h3.size)
            have F3 := Lib.hid (show RdF x3 x3.heap.size A3' AL from f3)
            have G3 := Lib.hid (Rd.mono (Rd.below F2.out h3) h3.size)
            have K3 := Lib.hid (Rd.mono (Rd.below G1.out h3) h3.size)
            have B3 := B2.trans (h3.mono B2.size)
            have HAL := Lib.hid hAL
            clear o3 f3 h3 hAL
            go_wp2_with fail
            refine (found_any A3' c3' AL x3 F3.out hal).mono ?_
            rintro e x4 ⟨y4, rfl, o4, h4⟩
            obtain ⟨A4', c4', rfl, _, _, f4, _⟩ := o4.slice
            have S4 := Lib.hid (Rd.mono (Rd.below S3.out h4) h4.size)
            have F4 := Lib.hid (show RdF x4 x4.heap.size A4' AL from f4)
            have G4 := Lib.hid (Rd.mono (Rd.below G3.out h4) h4.size)
            have K4 := Lib.hid (Rd.mono (Rd.below K3.out h4) h4.size)
            have B4 := B3.trans (h4.mono B3.size)
            clear o4 f4 h4
            go_wp2_with fail
            refine (refAll_any (some ⟨g, 0, none⟩) cap bl x4 S4.out hbT hcT hmT).mono ?_
            rintro e x5 ⟨y5, rfl, o5, h5⟩
            rw [HAL.out] at o5
            obtain ⟨A5', c5', rfl, _, _, f5, _⟩ := o5.slice
            have F5 := Lib.hid (show RdF x5 x5.heap.size A5' AL from f5)
            have M5 := Lib.hid (show RdF x5 x5.heap.size A4' AL from Rd.mono (Rd.below F4.out h5) h5.size)
            have G5 := Lib.hid (show RdF x5 x5.heap.size A2' FL from Rd.mono (Rd.below G4.out h5) h5.size)
            have K5 := Lib.hid (show RdF x5 x5.heap.size A1' FL from Rd.mono (Rd.below K4.out h5) h5.size)
            have B5 := B4.trans (h5.mono B4.size)
            clear o5 f5 h5
            go_wp2_with fail
            refine (eqAll_same A4' A5' c4' c5' AL x5 M5.out F5.out hal).mono ?_
            rintro e x6 ⟨rfl, h6⟩
            have G6 := Lib.hid (show RdF x6 x6.heap.size A2' FL from Rd.mono (Rd.below G5.out h6) h6.size)
            have K6 := Lib.hid (show RdF x6 x6.heap.size A1' FL from Rd.mono (Rd.below K5.out h6) h6.size)
            have B6 := B5.trans (h6.mono B5.size)
            clear h6
            go_wp2_with fail
            refine (found_any A1' c1' FL x6 K6.out hfl).mono ?_
            rintro e x7 ⟨y7, rfl, o7, h7⟩
            obtain ⟨A7', c7', rfl, _, _, f7, _⟩ := o7.slice
            have F7 := Lib.hid (show RdF x7 x7.heap.size A7' FL from f7)
            have G7 := Lib.hid (show RdF x7 x7.heap.size A2' FL from Rd.mono (Rd.below G6.out h7) h7.size)
            have B7 := B6.trans (h7.mono B6.size)
            clear o7 f7 h7
            go_wp2_with fail
            refine (eqAll_same A7' A2' c7' c2' FL x7 F7.out G7.out hfl).mono ?_
            rintro e x8 ⟨rfl, h8⟩
            go_wp2
            go_ret
            exact ⟨by first | rfl | simp, B7.trans (h8.mono B7.size)⟩
        · have RT := Lib.hid own.rd
          have hbT : bl.length ≤ 100000 := by omega
          have hcT := hcap
          have hmT := hcm
          have belT := belw
          clear own bel belw
          go_upto_region 14 with fail
          go_wp2_with fail
          refine (scanFront_any (some ⟨g, 0, none⟩) cap bl wr RT.out hbT hcT hmT).mono ?_
          rintro e x1 ⟨y1, rfl, o1, h1⟩
          obtain ⟨A1', c1', rfl, _, _, f1, _⟩ := o1.slice
          have S1 := Lib.hid (Rd.mono (Rd.below RT.out h1) h1.size)
          have F1 := Lib.hid (show RdF x1 x1.heap.size A1' (frontS bl 0).1 from f1)
          have B1 := belT.trans (h1.mono belT.size)
          clear o1 f1 h1
          go_wp2_with fail
          refine (refFront_any (some ⟨g, 0, none⟩) cap bl x1 S1.out hbT hcT hmT).mono ?_
          rintro e x2 ⟨y2, rfl, o2, h2⟩
          obtain ⟨A2', c2', rfl, _, _, f2, _⟩ := o2.slice
          have S2 := Lib.hid (Rd.mono (Rd.below S1.out h2) h2.size)
          have F2 := Lib.hid (show RdF x2 x2.heap.size A2' (frontS bl 0).1 from f2)
          have G1 := Lib.hid (Rd.mono (Rd.below F1.out h2) h2.size)
          have B2 := B1.trans (h2.mono B1.size)
          clear o2 f2 h2
          have hfl : (frontS bl 0).1.length ≤ 100000 := by have := frontS_len bl bl.length 0 (by omega); omega
          have hal : (allS bl 0).length ≤ 100000 := by have := allS_len bl bl.length 0 (by omega); omega
          generalize hFR : frontS bl 0 = FR at *
          obtain ⟨FL, fk⟩ := FR
          simp only at hfl
          have HFR := Lib.hid hFR
          clear hFR
          go_wp2_with fail
          refine (scanAll_any (some ⟨g, 0, none⟩) cap bl x2 S2.out hbT hcT hmT).mono ?_
          rintro e x3 ⟨y3, rfl, o3, h3⟩
          generalize hAL : allS bl 0 = AL at *
          obtain ⟨A3', c3', rfl, _, _, f3, _⟩ := o3.slice
          have S3 := Lib.hid (Rd.mono (Rd.below S2.out h3) h3.size)
          have F3 := Lib.hid (show RdF x3 x3.heap.size A3' AL from f3)
          have G3 := Lib.hid (Rd.mono (Rd.below F2.out h3) h3.size)
          have K3 := Lib.hid (Rd.mono (Rd.below G1.out h3) h3.size)
          have B3 := B2.trans (h3.mono B2.size)
          have HAL := Lib.hid hAL
          clear o3 f3 h3 hAL
          go_wp2_with fail
          refine (found_any A3' c3' AL x3 F3.out hal).mono ?_
          rintro e x4 ⟨y4, rfl, o4, h4⟩
          obtain ⟨A4', c4', rfl, _, _, f4, _⟩ := o4.slice
          have S4 := Lib.hid (Rd.mono (Rd.below S3.out h4) h4.size)
          have F4 := Lib.hid (show RdF x4 x4.heap.size A4' AL from f4)
          have G4 := Lib.hid (Rd.mono (Rd.below G3.out h4) h4.size)
          have K4 := Lib.hid (Rd.mono (Rd.below K3.out h4) h4.size)
          have B4 := B3.trans (h4.mono B3.size)
          clear o4 f4 h4
          go_wp2_with fail
          refine (refAll_any (some ⟨g, 0, none⟩) cap bl x4 S4.out hbT hcT hmT).mono ?_
          rintro e x5 ⟨y5, rfl, o5, h5⟩
          rw [HAL.out] at o5
          obtain ⟨A5', c5', rfl, _, _, f5, _⟩ := o5.slice
          have F5 := Lib.hid (show RdF x5 x5.heap.size A5' AL from f5)
          have M5 := Lib.hid (show RdF x5 x5.heap.size A4' AL from Rd.mono (Rd.below F4.out h5) h5.size)
          have G5 := Lib.hid (show RdF x5 x5.heap.size A2' FL from Rd.mono (Rd.below G4.out h5) h5.size)
          have K5 := Lib.hid (show RdF x5 x5.heap.size A1' FL from Rd.mono (Rd.below K4.out h5) h5.size)
          have B5 := B4.trans (h5.mono B4.size)
          clear o5 f5 h5
          go_wp2_with fail
          refine (eqAll_same A4' A5' c4' c5' AL x5 M5.out F5.out hal).mono ?_
          rintro e x6 ⟨rfl, h6⟩
          have G6 := Lib.hid (show RdF x6 x6.heap.size A2' FL from Rd.mono (Rd.below G5.out h6) h6.size)
          have K6 := Lib.hid (show RdF x6 x6.heap.size A1' FL from Rd.mono (Rd.below K5.out h6) h6.size)
          have B6 := B5.trans (h6.mono B5.size)
          clear h6
          go_wp2_with fail
          refine (found_any A1' c1' FL x6 K6.out hfl).mono ?_
          rintro e x7 ⟨y7, rfl, o7, h7⟩
          obtain ⟨A7', c7', rfl, _, _, f7, _⟩ := o7.slice
          have F7 := Lib.hid (show RdF x7 x7.heap.size A7' FL from f7)
          have G7 := Lib.hid (show RdF x7 x7.heap.size A2' FL from Rd.mono (Rd.below G6.out h7) h7.size)
          have B7 := B6.trans (h7.mono B6.size)
          clear o7 f7 h7
          go_wp2_with fail
          refine (eqAll_same A7' A2' c7' c2' FL x7 F7.out G7.out hfl).mono ?_
          rintro e x8 ⟨rfl, h8⟩
          go_wp2
          go_ret
          exact ⟨by first | rfl | simp, B7.trans (h8.mono B7.size)⟩
end Go.Proofs.Ytehhgfkbcjbciaa
