/- A part of the proofs of this seat: rules of a logic of owned and of lent memory, what functions compute, or their walks. -/
import Derived.Test.YtclediplagkblaaGreatCore8
import Derived.KernelRfl
set_option linter.unusedVariables false
set_option linter.unusedSimpArgs false
namespace Go.Hb
open Go
section
variable {P : Program} {ops : Array Oper} {Q : Exit → Act → World → Prop}
def wpAnyL (P : Program) (ops : Array Oper) (Q : Exit → Act → World → Prop) (I : Array Bool → World → Prop) : Nat → Array Bool → Act → World → Prop
  | 0, l, a, w => Region.ready .any ops l = [] ∧ Q .normal a w
  | f + 1, l, a, w => (Region.ready .any ops l = [] → Q .normal a w) ∧
    ∀ i ∈ Region.ready .any ops l, wpOp P ops Q i (fun a' w' => I (l.setIfInBounds i true) w' ∧ wpAnyL P ops Q I f (l.setIfInBounds i true) a' w') a w
theorem wpAny_of_L {I} : ∀ (f : Nat) (l : Array Bool) (a : Act) (w : World), wpAnyL P ops Q I f l a w → wpAny P .any ops Q f l a w
  | 0, _, _, _, h => h
  | f + 1, _, _, _, h => ⟨h.1, fun i hi => wpOp_mono (fun a' w' h' => wpAny_of_L f _ a' w' h'.2) (h.2 i hi)⟩
def Down (ops : Array Oper) (l : Array Bool) : Prop := ∀ (j : Nat) (oj : Oper), ops[j]? = some oj → l.getD j false = true → ∀ e ∈ oj.after, Region.binds .any e = true → l.getD e.on false = true
theorem Down.step {l : Array Bool} (h : Down ops l) {i : Nat} (hi : i ∈ Region.ready .any ops l) : Down ops (l.setIfInBounds i true) := by
  intro j oj hj hl e he hb
  obtain ⟨_, oi, hoi, hall⟩ := mem_ready.1 hi
  by_cases hji : i = j
  · subst hji
    rw [hoi] at hj; cases hj
    exact getD_set_true (hall e he hb)
  · rw [getD_set_ne false hji] at hl
    exact getD_set_true (h j oj hj hl e he hb)
theorem wpAnyL_first {I : Array Bool → World → Prop} {J : World → Prop} {i : Nat} {oi : Oper} {v : Value} (hi : ops[i]? = some oi) (hsel : ∀ (j : Nat) (o : Oper) cs b, ops[j]? = some o → o.op ≠ .select cs b)
    (hQ : ∀ c a w, Q (.panic c) (a.put oi.dst v) w → Q (.panic c) a w)
    (hJ : ∀ l w, Down ops l → l.getD i true = false → I l w → J w) (hI : ∀ l w, I (l.setIfInBounds i true) w ↔ I l w) :
    ∀ (fuel : Nat) (l : Array Bool) (a : Act) (w : World),
      (∀ j oj, ops[j]? = some oj → j ≠ i → l.getD j true = false → (∀ e ∈ oj.after, Region.binds .any e = true → e.on ≠ i) → oi.apart ops oj = true) →
      i ∈ Region.ready .any ops l → Down ops l → YieldsIf P ops J oi v a → I l w →
      wpAnyL P ops Q I fuel (l.setIfInBounds i true) (a.put oi.dst v) w → wpAnyL P ops Q I (fuel + 1) l a w := by
  intro fuel
  induction fuel with
  | zero =>
    intro l a w _ hr hdn hy hIl H
    refine ⟨fun h => (by rw [h] at hr; cases hr), fun j hj => ?_⟩
    by_cases hji : j = i
    · subst hji; exact hy.wpOp hi (hJ l w hdn (mem_ready.1 hr).1 hIl) ⟨(hI l w).2 hIl, H⟩
    · have := ready_mono hj hji
      rw [H.1] at this
      cases this
  | succ fuel ih =>
    intro l a w hfree hr hdn hy hIl H
    refine ⟨fun h => (by rw [h] at hr; cases hr), fun j hj => ?_⟩
    by_cases hji : j = i
    · subst hji; exact hy.wpOp hi (hJ l w hdn (mem_ready.1 hr).1 hIl) ⟨(hI l w).2 hIl, H⟩
    · have h1 := H.2 j (ready_mono hj hji)
      obtain ⟨hjun, oj, hoj, hall⟩ := mem_ready.1 hj
      have hnot : ∀ e ∈ oj.after, Region.binds .any e = true → e.on ≠ i := fun e he hb heq => by
        have h1 := hall e he hb
        have h0 := (mem_ready.1 hr).1
        rw [heq] at h1
        rcases Nat.lt_or_ge i l.size with h' | h'
        · simp [h'] at h0 h1; rw [h0] at h1; cases h1
        · simp [Array.getElem?_eq_none h'] at h1
      have h2 := wpOp_putIf hoj (hfree j oj hoj hji hjun hnot) (fun cs b => hsel i oi cs b hi) (fun cs b => hsel j oj cs b hoj) hQ hy h1
      have hfree' : ∀ k ok, ops[k]? = some ok → k ≠ i → (l.setIfInBounds j true).getD k true = false →
          (∀ e ∈ ok.after, Region.binds .any e = true → e.on ≠ i) → oi.apart ops ok = true := fun k ok hk hki hun hno => by
        refine hfree k ok hk hki ?_ hno
        by_cases hjk : j = k
        · subst hjk; exact hjun
        · rw [getD_set_ne true hjk] at hun; exact hun
      refine wpOp_mono (fun a' w' h3 => ?_) h2
      have hcomm : (l.setIfInBounds i true).setIfInBounds j true = (l.setIfInBounds j true).setIfInBounds i true := Array.setIfInBounds_comm _ _ (Ne.symm hji)
      have hIj : I (l.setIfInBounds j true) w' := (hI _ w').1 (by rw [← hcomm]; exact h3.2.1)
      refine ⟨hIj, ih (l.setIfInBounds j true) a' w' hfree' (ready_mono hr (Ne.symm hji)) (hdn.step hj) h3.1 hIj ?_⟩
      rw [← hcomm]
      exact h3.2.2
def Ik (o : Hp) : Option Nat → Array Bool → World → Prop
  | none, _, w => inW o w
  | some k, l, w => l.getD k false = true ∨ inW o w
theorem Ik.of {o : Hp} {k l w} (h : inW o w) : Ik o k l w := by cases k <;> first | exact h | exact .inr h
structure D (P : Program) (ops : Array Oper) (Q : Exit → Act → World → Prop) (k : Option Nat) (fuel : Nat) (l : Array Bool) (n : Nat) (c : Cx) (L : List (Nat × TV)) (H : List Res) : Prop where
  go : NoP Q → Down ops l → ∀ a w, E n L a → S c H w → wpAnyL P ops Q (Ik c.o k) fuel l a w
variable {n : Nat} {c c0 : Cx} {L : List (Nat × TV)} {H Hr : List Res} {k : Option Nat} {fuel : Nat} {l : Array Bool}
theorem C_draw {id : Nat} {os : List Oper} {H0 : List Res} (hm : P.follows .mixedOrders = true) (k : Option Nat) (Hin Hr : List Res) (hp : H0.Perm (Hin ++ Hr))
    (h : ∀ c, c0.le c → Sub Hr c.o → (∀ H w, S c H w → S c0 (H ++ Hr) w) → D P os.toArray Q k os.length (Array.replicate os.length false) n c L Hin) : C P (.region id os.toArray true) Q n c0 L H0 := by
  refine ⟨fun hnp a w he hs => ?_⟩
  obtain ⟨hr, shr, dj, hs', back⟩ := (hs.perm hp).lend
  have hd := (h ⟨c0.w0, c0.o.or hr⟩ ⟨rfl, Hp.le_or_left _ _⟩ ⟨hr, Hp.le_or_right dj, shr⟩ back).go hnp (by
    intro j oj _ hl
    simp [Array.getD_eq_getD_getElem?, Array.getElem?_replicate] at hl
    split at hl <;> simp at hl) a { w with drawn := w.drawn + 1 } he (by
      obtain ⟨m, ho, hh, i, d, s⟩ := hs'
      exact ⟨⟨m.os, m.tape, m.output, m.size⟩, ho, hh, i, d, s⟩)
  refine wp_region_any hm ?_
  simpa using wpAny_of_L _ _ _ _ hd
theorem yields_true {J : World → Prop} {oi : Oper} {x : TV} {a : Act} (hr : ∀ w, J w → inW c.o w) (hrd : Rd P oi n c L x) (he : E n L a) (hw : Region.wanted oi (yielded ops a.tmps) = true) : YieldsIf P ops J oi x.v a :=
  .inl ⟨hw, fun w hj => hrd.go a he w (hr w hj)⟩
def waits (ops : Array Oper) : Option Nat → Nat → Bool
  | none, _ => true
  | some k, i => match ops[k]? with
    | some ok => ok.after.any (fun e => Region.binds .any e && e.on == i) && !(k == i)
    | none => false
theorem waits_J {i : Nat} (hw : waits ops k i = true) {o : Hp} (l : Array Bool) (w : World) (hd : Down ops l) (h1 : l.getD i true = false) (h2 : Ik o k l w) : inW o w := by
  cases k with
  | none => exact h2
  | some k =>
    rcases h2 with h2 | h2
    · exfalso
      simp only [waits] at hw
      split at hw
      · rename_i ok hok
        simp only [Bool.and_eq_true] at hw
        obtain ⟨e, he, hb⟩ := Array.any_eq_true'.1 hw.1
        simp only [Bool.and_eq_true, beq_iff_eq] at hb
        have := hd k ok hok h2 e he hb.1
        rw [hb.2] at this
        rcases Nat.lt_or_ge i l.size with h' | h'
        · simp [h'] at h1 this; rw [h1] at this; cases this
        · simp [Array.getElem?_eq_none h'] at this
      · cases hw
    · exact h2
theorem waits_I {i : Nat} (hw : waits ops k i = true) {o : Hp} (l : Array Bool) (w : World) : Ik o k (l.setIfInBounds i true) w ↔ Ik o k l w := by
  cases k with
  | none => exact Iff.rfl
  | some k =>
    have hne : i ≠ k := by
      simp only [waits] at hw
      split at hw
      · simp only [Bool.and_eq_true] at hw
        intro e; subst e; simp at hw
      · cases hw
    simp only [Ik, getD_set_ne false hne]
theorem D_take {i d : Nat} {oi : Oper} {x : TV} (hi : ops[i]? = some oi) (hck : (Region.noSelect ops && Region.free .any ops l i && (Region.ready .any ops l).contains i && waits ops k i) = true)
    (hrd : Rd P oi n c L x) (hd : oi.dst = some d) (hdn : Nat.blt d n = true) (hg : oi.guard = none) (h : D P ops Q k fuel (l.setIfInBounds i true) n c ((d, x) :: L) H) : D P ops Q k (fuel + 1) l n c L H := by
  refine ⟨fun hnp hdown a w he hs => ?_⟩
  simp only [Bool.and_eq_true] at hck
  obtain ⟨⟨⟨h1, h2⟩, h3⟩, h4⟩ := hck
  have hr : i ∈ Region.ready .any ops l := by simpa using h3
  refine wpAnyL_first (J := fun w => inW c.o w) (v := x.v) hi (Region.noSelect_spec h1) (fun ch a w hq => absurd hq (hnp ch _ w)) (fun l w hd h1 h2 => waits_J h4 l w hd h1 h2) (fun l w => waits_I h4 l w) fuel l a w (Region.free_spec hi h2) hr hdown
    (yields_true (fun _ h => h) hrd he (by simp [Region.wanted, hg])) (Ik.of hs.2.1) ?_
  rw [hd]
  exact h.go hnp (hdown.step hr) _ w (he.put (by simpa using hdn)) hs
theorem D_takeg {i d j dj : Nat} {want : Bool} {oi : Oper} {x : TV} (hi : ops[i]? = some oi) (hck : (Region.noSelect ops && Region.free .any ops l i && (Region.ready .any ops l).contains i && waits ops k i) = true)
    (hrd : Rd P oi n c L x) (hd : oi.dst = some d) (hdn : Nat.blt d n = true) (hg : oi.guard = some (j, want)) (hj : ((ops[j]?).bind (·.dst)) = some dj) (hl : look L dj = some (.b want)) (h : D P ops Q k fuel (l.setIfInBounds i true) n c ((d, x) :: L) H) : D P ops Q k (fuel + 1) l n c L H := by
  refine ⟨fun hnp hdown a w he hs => ?_⟩
  simp only [Bool.and_eq_true] at hck
  obtain ⟨⟨⟨h1, h2⟩, h3⟩, h4⟩ := hck
  have hr : i ∈ Region.ready .any ops l := by simpa using h3
  refine wpAnyL_first (J := fun w => inW c.o w) (v := x.v) hi (Region.noSelect_spec h1) (fun ch a w hq => absurd hq (hnp ch _ w)) (fun l w hd h1 h2 => waits_J h4 l w hd h1 h2) (fun l w => waits_I h4 l w) fuel l a w (Region.free_spec hi h2) hr hdown
    (yields_true (fun _ h => h) hrd he (wanted_true he hg hj hl)) (Ik.of hs.2.1) ?_
  rw [hd]
  exact h.go hnp (hdown.step hr) _ w (he.put (by simpa using hdn)) hs
theorem D_takef {i d j dj : Nat} {want : Bool} {oi : Oper} {x : TV} (hi : ops[i]? = some oi) (hck : (Region.noSelect ops && Region.free .any ops l i && (Region.ready .any ops l).contains i && waits ops k i) = true)
    (hd : oi.dst = some d) (hdn : Nat.blt d n = true) (hg : oi.guard = some (j, want)) (hj : ((ops[j]?).bind (·.dst)) = some dj) (hl : look L dj = some x) (hx : x = .b (!want) ∨ x = .un) (h : D P ops Q k fuel (l.setIfInBounds i true) n c ((d, .un) :: L) H) : D P ops Q k (fuel + 1) l n c L H := by
  refine ⟨fun hnp hdown a w he hs => ?_⟩
  simp only [Bool.and_eq_true] at hck
  obtain ⟨⟨⟨h1, h2⟩, h3⟩, h4⟩ := hck
  have hr : i ∈ Region.ready .any ops l := by simpa using h3
  refine wpAnyL_first (J := fun w => inW c.o w) (v := undef) hi (Region.noSelect_spec h1) (fun ch a w hq => absurd hq (hnp ch _ w)) (fun l w hd h1 h2 => waits_J h4 l w hd h1 h2) (fun l w => waits_I h4 l w) fuel l a w (Region.free_spec hi h2) hr hdown
    (.inr ⟨wanted_false he hg hj hl hx, rfl⟩) (Ik.of hs.2.1) ?_
  rw [hd]
  exact h.go hnp (hdown.step hr) _ w (he.put (x := .un) (by simpa using hdn)) hs
structure Up (P : Program) (ops : Array Oper) (Q : Exit → Act → World → Prop) (k : Option Nat) (fuel : Nat) (l : Array Bool) (n : Nat) (c : Cx) (L : List (Nat × TV)) (H : List Res) (i : Nat) : Prop where
  go : ∃ oi, ops[i]? = some oi ∧ oi.guard = none ∧ Op1 P oi n c L H (fun L' H' => D P ops Q k fuel (l.setIfInBounds i true) n c L' H')
theorem D_all {rs : List Nat} (hr : Region.ready .any ops l = rs) (hne : rs ≠ []) (h : ∀ i ∈ rs, Up P ops Q k fuel l n c L H i) : D P ops Q k (fuel + 1) l n c L H := by
  refine ⟨fun hnp hdown a w he hs => ⟨fun h0 => absurd (hr ▸ h0) hne, fun i hi => ?_⟩⟩
  obtain ⟨oi, hoi, hg, hop⟩ := (h i (hr ▸ hi)).go
  unfold wpOp
  simp only [hoi, Region.wanted, hg, if_true]
  refine .inl (hop.go _ Q (fun L' H' hd a' w' he' hs' => ⟨Ik.of hs'.2.1, hd.go hnp (hdown.step hi) a' w' he' hs'⟩) a w he hs)
theorem D_one {i : Nat} {oi : Oper} (hr : Region.ready .any ops l = [i]) (hi : ops[i]? = some oi) (hg : oi.guard = none) (h : Op1 P oi n c L H (fun L' H' => D P ops Q k fuel (l.setIfInBounds i true) n c L' H')) : D P ops Q k (fuel + 1) l n c L H :=
  D_all hr (by simp) (fun j hj => by simp at hj; subst hj; exact ⟨oi, hi, hg, h⟩)
theorem D_two {i j : Nat} {oi oj : Oper} (hr : Region.ready .any ops l = [i, j]) (hi : ops[i]? = some oi) (hg : oi.guard = none) (hj : ops[j]? = some oj) (hgj : oj.guard = none) (h : Op1 P oi n c L H (fun L' H' => D P ops Q k fuel (l.setIfInBounds i true) n c L' H')) (h' : Op1 P oj n c L H (fun L' H' => D P ops Q k fuel (l.setIfInBounds j true) n c L' H')) : D P ops Q k (fuel + 1) l n c L H :=
  D_all hr (by simp) (fun q hq => by
    simp at hq
    rcases hq with rfl | rfl
    · exact ⟨oi, hi, hg, h⟩
    · exact ⟨oj, hj, hgj, h'⟩)
theorem D_done (hr : Region.ready .any ops l = []) (back : ∀ H w, S c H w → S c0 (H ++ Hr) w) (h : N Q n c0 L (H ++ Hr)) : D P ops Q k fuel l n c L H := by
  refine ⟨fun hnp _ a w he hs => ?_⟩
  have := h.go hnp a w he (back _ _ hs)
  cases fuel with
  | zero => exact ⟨hr, this⟩
  | succ f => exact ⟨fun _ => this, by rw [hr]; simp⟩
theorem D_last {i : Nat} {oi : Oper} (hr : Region.ready .any ops l = [i]) (hr' : Region.ready .any ops (l.setIfInBounds i true) = []) (hil : i < l.size) (hi : ops[i]? = some oi) (hg : oi.guard = none) (back : ∀ H w, S c H w → S c0 (H ++ Hr) w)
    (h : Op1 P oi n c0 L (H ++ Hr) (fun L' H' => N Q n c0 L' H')) : D P ops Q (some i) (fuel + 1) l n c L H := by
  refine ⟨fun hnp _ a w he hs => ⟨fun h0 => (by rw [hr] at h0; cases h0), fun j hj => ?_⟩⟩
  rw [hr] at hj
  simp at hj; subst hj
  unfold wpOp
  simp only [hi, Region.wanted, hg, if_true]
  refine .inl (h.go _ Q (fun L' H' hn a' w' he' hs' => ⟨.inl (by simp [hil]), ?_⟩) a w he (back _ _ hs))
  have := hn.go hnp a' w' he' hs'
  cases fuel with
  | zero => exact ⟨hr', this⟩
  | succ f => exact ⟨fun _ => this, by rw [hr']; simp⟩
end
end Go.Hb
