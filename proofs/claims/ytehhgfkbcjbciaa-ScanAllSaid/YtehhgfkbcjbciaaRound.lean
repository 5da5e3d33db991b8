/- Records to bytes and back: the plain law. -/
import Derived.Test.YtehhgfkbcjbciaaRefDec
import Derived.Test.YtehhgfkbcjbciaaEq
namespace Go.Proofs.Ytehhgfkbcjbciaa

theorem OwnB.rd {w : World} {base : Nat} {A : Option Addr} {n c : Nat} {l : List UInt8} (h : OwnB w base (.slice A n c) l) : RdB w w.heap.size A l := by
  obtain ⟨A', c', e, _, _, r, _⟩ := h.slice
  injection e with e1
  subst e1
  exact r

theorem mid {α : Type} (a b c l : List α) (p k : Nat) (h : l = a ++ b ++ c) (hp : a.length = p) (hk : b.length = k) : (l.drop p).take k = b := by
  subst h hp hk
  rw [List.append_assoc, List.drop_left, List.take_left]

/-- a record's bytes, parted -/
theorem enc_eq (R : Rec) (hm : R.may = true) : enc R = [83, 82, UInt8.ofNat R.kind.toNat] ++ put R.tenant 4 ++ put R.epoch 8 ++ put R.object 8 ++ put R.seq 8 ++ put R.body.size 4 ++ put (crcSum (hd R ++ R.bytes)).toNat 4 ++ R.bytes := by
  rw [enc, if_pos hm]
  rfl

theorem may_spec {R : Rec} (hm : R.may = true) : 1 ≤ R.kind ∧ R.kind ≤ 4 ∧ R.epoch ≤ 1099511627776 ∧ R.object ≤ 1099511627776 ∧ R.seq ≤ 1099511627776 ∧ R.body.size ≤ 1000 := by
  simpa only [Rec.may, decide_eq_true_eq] using hm

theorem dec_enc (R : Rec) (hm : R.may = true) (ht : R.tenant < 4294967296) (rest : List UInt8) : dec (enc R ++ rest) = (R, 39 + R.body.size, 0) := by
  obtain ⟨h1, h2, h3, h4, h5, h6⟩ := may_spec hm
  have el := enc_len R hm
  have hb := R.bytes_len
  obtain ⟨l, hl⟩ : ∃ l, enc R ++ rest = l := ⟨_, rfl⟩
  rw [hl]
  have e := enc_eq R hm
  have hlen : l.length = 39 + R.body.size + rest.length := by rw [← hl, List.length_append, el]
  have hhd := hd_len R
  rw [e] at hl
  have p3 : (l.drop 3).take 4 = put R.tenant 4 := mid [83, 82, UInt8.ofNat R.kind.toNat] _ (put R.epoch 8 ++ put R.object 8 ++ put R.seq 8 ++ put R.body.size 4 ++ put (crcSum (hd R ++ R.bytes)).toNat 4 ++ R.bytes ++ rest) l 3 4 (by rw [← hl]; simp) rfl (put_len _ _)
  have p7 : (l.drop 7).take 8 = put R.epoch 8 := mid ([83, 82, UInt8.ofNat R.kind.toNat] ++ put R.tenant 4) _ (put R.object 8 ++ put R.seq 8 ++ put R.body.size 4 ++ put (crcSum (hd R ++ R.bytes)).toNat 4 ++ R.bytes ++ rest) l 7 8 (by rw [← hl]; simp) rfl (put_len _ _)
  have p15 : (l.drop 15).take 8 = put R.object 8 := mid ([83, 82, UInt8.ofNat R.kind.toNat] ++ put R.tenant 4 ++ put R.epoch 8) _ (put R.seq 8 ++ put R.body.size 4 ++ put (crcSum (hd R ++ R.bytes)).toNat 4 ++ R.bytes ++ rest) l 15 8 (by rw [← hl]; simp) rfl (put_len _ _)
  have p23 : (l.drop 23).take 8 = put R.seq 8 := mid ([83, 82, UInt8.ofNat R.kind.toNat] ++ put R.tenant 4 ++ put R.epoch 8 ++ put R.object 8) _ (put R.body.size 4 ++ put (crcSum (hd R ++ R.bytes)).toNat 4 ++ R.bytes ++ rest) l 23 8 (by rw [← hl]; simp) rfl (put_len _ _)
  have p31 : (l.drop 31).take 4 = put R.body.size 4 := mid ([83, 82, UInt8.ofNat R.kind.toNat] ++ put R.tenant 4 ++ put R.epoch 8 ++ put R.object 8 ++ put R.seq 8) _ (put (crcSum (hd R ++ R.bytes)).toNat 4 ++ R.bytes ++ rest) l 31 4 (by rw [← hl]; simp) rfl (put_len _ _)
  have p35 : (l.drop 35).take 4 = put (crcSum (hd R ++ R.bytes)).toNat 4 := mid (hd R) _ (R.bytes ++ rest) l 35 4 (by rw [← hl]; simp [hd]) hhd (put_len _ _)
  have p39 : (l.drop 39).take R.body.size = R.bytes := mid (hd R ++ put (crcSum (hd R ++ R.bytes)).toNat 4) _ rest l 39 R.body.size (by rw [← hl]; simp [hd]) (by simp [hhd, put_len]) hb
  have p35' : l.take 35 = hd R := by
    have := mid [] (hd R) (put (crcSum (hd R ++ R.bytes)).toNat 4 ++ R.bytes ++ rest) l 0 35 (by rw [← hl]; simp [hd]) rfl hhd
    simpa using this
  have g0 : l.getD 0 0 = 83 := by rw [← hl]; rfl
  have g1 : l.getD 1 0 = 82 := by rw [← hl]; rfl
  have g2 : l.getD 2 0 = UInt8.ofNat R.kind.toNat := by rw [← hl]; rfl
  have gk : ((UInt8.ofNat R.kind.toNat).toNat : Int) = R.kind := by rw [ofNat8]; omega
  have hbeg : beg l = true := by
    unfold beg
    rw [decide_eq_true (fun i hi => by
      rcases (show i = 0 ∨ i = 1 by omega) with rfl | rfl
      · rw [g0]; rfl
      · rw [g1]; rfl), g2, decide_eq_true (show 1 ≤ (UInt8.ofNat R.kind.toNat).toNat by omega), decide_eq_true (show (UInt8.ofNat R.kind.toNat).toNat ≤ 4 by omega)]
    simp
  have hds : dsz l = R.body.size := by rw [dsz, p31, get_put_lt _ _ (by omega)]
  have hhr : headRec l = { R with body := ByteArray.empty } := by
    unfold headRec
    rw [g2, gk, p3, p7, p15, p23, get_put_lt _ _ (by omega), get_put_lt _ _ (by omega), get_put_lt _ _ (by omega), get_put_lt _ _ (by omega)]
  have hmay : (headRec l).may = true := by
    rw [hhr]
    simp only [Rec.may, decide_eq_true_eq]
    exact ⟨h1, h2, h3, h4, h5, by simp⟩
  rw [dec, if_neg (by rw [hbeg]; simp), if_neg (by omega), if_neg (by rw [hds, hmay]; simp; omega), if_neg (by rw [hds]; omega), hds, p39, p35', p35, get_put_lt _ _ (crcSum (hd R ++ R.bytes)).isLt, if_pos (by simp), hhr]
  rfl

/-- the beginning of a record is told as such -/
theorem dec_more (l : List UInt8) (h1 : beg l = true) (h2 : l.length < 39) : dec l = (zeroRec, 0, 11) := by
  rw [dec, if_neg (by rw [h1]; simp), if_pos h2]

theorem enc_no (R : Rec) (h : R.may = false) : enc R = [] := by rw [enc, if_neg (by rw [h]; simp)]

end Go.Proofs.Ytehhgfkbcjbciaa
