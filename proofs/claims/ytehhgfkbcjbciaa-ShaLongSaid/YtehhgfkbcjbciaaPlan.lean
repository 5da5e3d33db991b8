/- A region that draws its order, walked step by step: what only reads is taken first, what is left comes up alone (any_one), or in one of two ways (any_two). -/
import Derived.Test.YtehhgfkbcjbciaaBase
import Derived.Deep.RegionHeld3
namespace Go.Proofs.Ytehhgfkbcjbciaa
open Go.RowKit

section
variable {P : Program} {l : List Oper} {Q : Exit → Act → World → Prop} {md : Region.Mode} {S : World → Prop}

/-- what follows an operation: S is shown, the rest is walked -/
def Onward (P : Program) (md : Region.Mode) (l : List Oper) (Q : Exit → Act → World → Prop) (S : World → Prop) (fuel : Nat) (listed : Array Bool) (K : Act → World → Prop) : Prop :=
  ∀ a w, S w → (S w → wpAnyH P md l.toArray Q S fuel listed a w) → K a w

/-- one alone may come up -/
theorem any_one (i : Nat) {o : Oper} {fuel : Nat} {listed : Array Bool} {a : Act} {w : World} (hr : Region.ready md l.toArray listed = [i]) (ho : l[i]? = some o) (hg : Region.wanted o (yielded l.toArray a.tmps) = true)
    (h : ∀ K : Act → World → Prop, Onward P md l Q S fuel (listed.setIfInBounds i true) K → o.wp P a w K Q) : wpAnyH P md l.toArray Q S (fuel + 1) listed a w := by
  refine wpAnyH_ready hr (by simp) (AllReadyH.cons (o := o) (by simpa using ho) (fun K hK => ?_) AllReadyH.nil)
  rw [if_pos hg]
  exact h K hK

/-- one of two may come up -/
theorem any_two (i j : Nat) {o u : Oper} {fuel : Nat} {listed : Array Bool} {a : Act} {w : World} (hr : Region.ready md l.toArray listed = [i, j]) (ho : l[i]? = some o) (hu : l[j]? = some u) (hg : Region.wanted o (yielded l.toArray a.tmps) = true) (hgu : Region.wanted u (yielded l.toArray a.tmps) = true)
    (h : ∀ K : Act → World → Prop, Onward P md l Q S fuel (listed.setIfInBounds i true) K → o.wp P a w K Q)
    (h' : ∀ K : Act → World → Prop, Onward P md l Q S fuel (listed.setIfInBounds j true) K → u.wp P a w K Q) : wpAnyH P md l.toArray Q S (fuel + 1) listed a w := by
  refine wpAnyH_ready hr (by simp) (AllReadyH.cons (o := o) (by simpa using ho) (fun K hK => ?_) (AllReadyH.cons (o := u) (by simpa using hu) (fun K hK => ?_) AllReadyH.nil))
  · rw [if_pos hg]
    exact h K hK
  · rw [if_pos hgu]
    exact h' K hK

/-- taken first -/
theorem any_take (i : Nat) {o : Oper} {v : Value} {fuel : Nat} {listed : Array Bool} {a : Act} {w : World} (hi : l[i]? = some o) (hg : Region.wanted o (yielded l.toArray a.tmps) = true)
    (hs : Region.noSelect l.toArray = true) (hf : Region.free md l.toArray listed i = true) (hr : (Region.ready md l.toArray listed).contains i = true)
    (hQ : ∀ c a w, Q (.panic c) (a.put o.dst v) w → Q (.panic c) a w) (hS : S w) (hy : ∀ w, S w → (execOp a.eval o).run P w = .ok (.value v) w)
    (h : wpAnyH P md l.toArray Q S fuel (listed.setIfInBounds i true) (a.put o.dst v) w) : wpAnyH P md l.toArray Q S (fuel + 1) listed a w :=
  wpAnyH_take (i := i) (oi := o) (by simpa using hi) hs hf hr hQ (.inl ⟨hg, hy⟩) hS h

/-! ### A call that leaves the world alone may be taken first, too -/
/-- what an operation is going to do, and that it does it -/
def Does (ops : Array Oper) (o : Oper) (E : Sem Next) (a : Act) : Prop := execOp a.eval o = E ∧ Region.wanted o (yielded ops a.tmps) = true

theorem does_put {ops : Array Oper} {j : Nat} {x y : Oper} {v : Value} {E : Sem Next} (hj : ops[j]? = some y) (hap : x.apart ops y = true) (hx : ∀ cs b, x.op ≠ .select cs b) (hy : ∀ cs b, y.op ≠ .select cs b)
    (hQ : ∀ c a w, Q (.panic c) (a.put x.dst v) w → Q (.panic c) a w) {K : Act → World → Prop} {a : Act} {w : World} (hd : Does ops x E a) (h : wpOp P ops Q j K (a.put x.dst v) w) :
    wpOp P ops Q j (fun a' w' => Does ops x E a' ∧ K (a'.put x.dst v) w') a w := by
  obtain ⟨h1, h2, h3⟩ := Oper.apart_spec hap
  have keep : ∀ b : Act, Does ops x E b → ∀ u, Does ops x E (b.put y.dst u) := fun b hb u => ⟨(execOp_put x hx b y.dst u h3).trans hb.1, (wanted_put x b y.dst u h3).trans hb.2⟩
  have move : ∀ b : Act, ∀ u, (b.put x.dst v).put y.dst u = (b.put y.dst u).put x.dst v := fun b u => Act.put_comm b v u h2
  unfold wpOp at *
  simp only [hj] at *
  rw [wanted_put y a x.dst v h1] at h
  split
  · rename_i hw
    simp only [hw, if_true] at h
    refine h.imp (fun g => ?_) (fun g => ⟨by have := g.1; unfold Oper.asks at *; rwa [execOp_put y hy a x.dst v h1] at this, g.2⟩)
    unfold Oper.wp at *
    rw [execOp_put y hy a x.dst v h1] at g
    cases hr : (execOp a.eval y).run P w with
    | ok n w' =>
      rw [hr] at g
      cases n with
      | value u => exact ⟨keep a hd u, move a u ▸ g⟩
      | skip => exact ⟨keep a hd _, move a undef ▸ g⟩
      | defer d =>
        have g' : K (({ a.put x.dst v with defers := d :: (a.put x.dst v).defers } : Act).put y.dst undef) w' := g
        rw [Act.put_defers, move] at g'
        exact ⟨keep { a with defers := d :: a.defers } hd _, g'⟩
      | enter f args =>
        refine Calls.mono (show Calls P f args w' _ from g) fun e w'' he => ?_
        cases e with
        | returned u => exact ⟨keep a hd u, move a u ▸ he⟩
        | panicked c => exact hQ _ _ _ he
        | outgrown => exact he
      | row r args => exact Rows.mono (show Rows P r args w' _ from g) fun u w'' he => ⟨keep a hd u, move a u ▸ he⟩
      | _ => exact (g : False).elim
    | halt e w' =>
      rw [hr] at g
      cases e with
      | panic u => exact hQ _ _ _ g
      | _ => exact (g : False).elim
  · rename_i hw
    simp only [hw] at h
    exact ⟨keep a hd _, move a undef ▸ h⟩

theorem does_first {ops : Array Oper} {i : Nat} {x : Oper} {v : Value} {E : Sem Next} (hi : ops[i]? = some x) (hs : Region.noSelect ops = true) (hQ : ∀ c a w, Q (.panic c) (a.put x.dst v) w → Q (.panic c) a w)
    (hdo : ∀ (K : Act → World → Prop) a w, Does ops x E a → S w → K (a.put x.dst v) w → wpOp P ops Q i K a w) :
    ∀ (fuel : Nat) (listed : Array Bool) (a : Act) (w : World),
      (∀ j y, ops[j]? = some y → j ≠ i → listed.getD j true = false → (∀ e ∈ y.after, Region.binds md e = true → e.on ≠ i) → x.apart ops y = true) →
      i ∈ Region.ready md ops listed → Does ops x E a → S w → wpAnyH P md ops Q S fuel (listed.setIfInBounds i true) (a.put x.dst v) w → wpAnyH P md ops Q S (fuel + 1) listed a w
  | 0, listed, a, w, _, hr, hd, hS, H => by
    refine ⟨fun h => (by rw [h] at hr; cases hr), fun j hj => ?_⟩
    by_cases hji : j = i
    · subst hji; exact hdo _ a w hd hS ⟨hS, H⟩
    · have := ready_mono hj hji
      rw [H.1] at this
      cases this
  | fuel + 1, listed, a, w, hf, hr, hd, hS, H => by
    refine ⟨fun h => (by rw [h] at hr; cases hr), fun j hj => ?_⟩
    by_cases hji : j = i
    · subst hji; exact hdo _ a w hd hS ⟨hS, H⟩
    · obtain ⟨hun, y, hy, hall⟩ := mem_ready.1 hj
      have hno : ∀ e ∈ y.after, Region.binds md e = true → e.on ≠ i := fun e he hb heq => by
        have h1 := hall e he hb
        have h0 := (mem_ready.1 hr).1
        subst heq
        rcases Nat.lt_or_ge e.on listed.size with h' | h'
        · simp [h'] at h0 h1; rw [h0] at h1; cases h1
        · simp [Array.getElem?_eq_none h'] at h1
      have h2 := does_put hy (hf j y hy hji hun hno) (fun cs b => Region.noSelect_spec hs i x cs b hi) (fun cs b => Region.noSelect_spec hs j y cs b hy) hQ hd (H.2 j (ready_mono hj hji))
      refine wpOp_mono (fun a' w' h3 => ⟨h3.2.1, does_first hi hs hQ hdo fuel (listed.setIfInBounds j true) a' w' (fun k z hk hki hk0 hk1 => ?_) (ready_mono hr (Ne.symm hji)) h3.1 h3.2.1 ?_⟩) h2
      · refine hf k z hk hki ?_ hk1
        by_cases hjk : j = k
        · subst hjk; exact hun
        · rwa [getD_set_ne true hjk] at hk0
      · rw [Array.setIfInBounds_comm _ _ hji]
        exact h3.2.2

/-- a call of a Go function that leaves the world alone, wherever S holds, is taken first -/
theorem any_call (i : Nat) {o : Oper} {v : Value} {f : FuncId} {args : Array Value} {fuel : Nat} {listed : Array Bool} {a : Act} {w : World} (hi : l[i]? = some o) (hg : Region.wanted o (yielded l.toArray a.tmps) = true)
    (hs : Region.noSelect l.toArray = true) (hf : Region.free md l.toArray listed i = true) (hr : (Region.ready md l.toArray listed).contains i = true)
    (hQ : ∀ c a w, Q (.panic c) (a.put o.dst v) w → Q (.panic c) a w) (hS : S w) (hy : ∀ w, S w → (execOp a.eval o).run P w = .ok (.enter f args) w)
    (hc : ∀ w, S w → Calls P f args w fun e w' => e = .returned v ∧ w = w')
    (h : wpAnyH P md l.toArray Q S fuel (listed.setIfInBounds i true) (a.put o.dst v) w) : wpAnyH P md l.toArray Q S (fuel + 1) listed a w := by
  have hi' : l.toArray[i]? = some o := by simpa using hi
  refine does_first (E := execOp a.eval o) hi' hs hQ (fun K b w hd hS hK => ?_) fuel listed a w (Region.free_spec hi' hf) (by simpa using hr) ⟨rfl, hg⟩ hS h
  unfold wpOp
  simp only [hi']
  rw [if_pos hd.2]
  left
  unfold Oper.wp
  rw [hd.1, hy w hS]
  exact Calls.mono (hc w hS) fun e w' ⟨he, hw⟩ => by subst he hw; exact hK

/-- all have come up -/
theorem any_done {listed : Array Bool} {a : Act} {w : World} {fuel : Nat} (hr : Region.ready md l.toArray listed = []) (h : Q .normal a w) : wpAnyH P md l.toArray Q S fuel listed a w :=
  wpAnyH_done hr h fuel

/-- the beginning; the region does not panic -/
theorem any_begin (S : World → Prop) {id : Nat} {a : Act} {w : World} (hm : P.follows .mixedOrders = true) (hS : S w.drew)
    (h : S w.drew → wpAnyH P .any l.toArray (NoPanic Q) S l.length (Array.replicate l.length false) a w.drew) : (Code.region id l.toArray true).wp P Q a w :=
  wp_region_noPanic (wp_region_held_drew (S := S) hm hS (by simpa using h))

end
end Go.Proofs.Ytehhgfkbcjbciaa
