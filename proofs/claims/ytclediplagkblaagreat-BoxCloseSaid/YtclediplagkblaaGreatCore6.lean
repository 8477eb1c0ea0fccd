/- A part of the proofs of this seat: rules of a logic of owned and of lent memory, what functions compute, or their walks. -/
import Derived.Test.YtclediplagkblaaGreatCore5
set_option linter.unusedVariables false
set_option linter.unusedSimpArgs false
namespace Go.Hb
open Go
theorem pos_of_len {xs : List TV} {m sz k : Nat} (h : xs.length = m * sz) (hk : k < xs.length) : 0 < m := by
  rcases Nat.eq_zero_or_pos m with h0 | h0
  · subst h0; omega
  · exact h0
structure RS (o : Hp) (sz : Nat) (A : Option Addr) (n cp : Nat) (xs : List TV) : Prop where
  len : xs.length = n * sz
  cap : n ≤ cp ∧ cp ≤ maxLen
  at_ : n = 0 ∨ ∃ g off cs T fr, A = some ⟨g, off, none⟩ ∧ o g = some (.cells cs T fr) ∧ ∀ j x, xs[j]? = some x → cs[off + j]? = some x.v
theorem RS.mono {o o' : Hp} {sz A n cp xs} (h : RS o sz A n cp xs) (hl : o.le o') : RS o' sz A n cp xs :=
  ⟨h.len, h.cap, h.at_.imp id fun ⟨g, off, cs, T, fr, e, hg, hc⟩ => ⟨g, off, cs, T, fr, e, hl _ _ hg, hc⟩⟩
theorem RS.addr {o : Hp} {sz A n cp xs} (h : RS o sz A n cp xs) (hn : 0 < n) : ∃ a, A = some a ∧ a.spot = none := by
  rcases h.at_ with h | ⟨g, off, cs, T, fr, e, _⟩
  · omega
  · exact ⟨_, e, rfl⟩
theorem RS.le63 {o : Hp} {sz A n cp xs} (h : RS o sz A n cp xs) : n ≤ 9223372036854775807 := by
  have := h.cap; simp only [maxLen] at this; omega
theorem RS.cell {o : Hp} {sz A n cp xs} (h : RS o sz A n cp xs) {w : World} (hi : inW o w) {a : Addr} (hA : A = some a) {j : Nat} {x : TV} (hx : xs[j]? = some x) : w.cell? (a.add j) = some x.v := by
  rcases h.at_ with h0 | ⟨g, off, cs, T, fr, e, hg, hc⟩
  · have := h.len; subst h0; simp at this; subst this; simp at hx
  · rw [hA] at e; cases e
    rw [add_plain]
    simp [World.cell?, hi _ _ hg, hc j x hx]
theorem RS.nil (o : Hp) (sz : Nat) (A : Option Addr) {cp : Nat} (h : cp ≤ maxLen) : RS o sz A 0 cp [] := ⟨by simp, ⟨Nat.zero_le _, h⟩, .inl rfl⟩
def okfr (fr : Nat × Nat) (k : Nat) : Prop := fr = (0, 0) ∨ k ≤ fr.1
structure RowP (h : Hp) (sz T : Nat) (A : Option Addr) (n cp : Nat) (xs : List TV) : Prop where
  len : xs.length = n * sz
  alt : (A = none ∧ n = 0 ∧ cp = 0) ∨ ∃ g cur fr, A = some ⟨g, 0, none⟩ ∧ h g = some (.cells cur T fr) ∧ okfr fr cur.size ∧ n ≤ cp ∧ cp ≤ maxLen ∧ cur.size = cp * sz ∧ cur.toList.take (n * sz) = TV.vs xs
def Row (sz T : Nat) (A : Option Addr) (n cp : Nat) (xs : List TV) : Res := fun h => RowP h sz T A n cp xs
theorem RowP.mono {h h' : Hp} {sz T A n cp xs} (r : RowP h sz T A n cp xs) (hl : h.le h') : RowP h' sz T A n cp xs :=
  ⟨r.len, r.alt.imp id fun ⟨g, cur, fr, e, hg, rest⟩ => ⟨g, cur, fr, e, hl _ _ hg, rest⟩⟩
theorem RowP.rs {h : Hp} {sz T A n cp xs} (r : RowP h sz T A n cp xs) : RS h sz A n cp xs := by
  rcases r.alt with ⟨rfl, rfl, rfl⟩ | ⟨g, cur, fr, rfl, hg, _, h1, h2, hs, ht⟩
  · exact ⟨r.len, ⟨Nat.le_refl _, Nat.zero_le _⟩, .inl rfl⟩
  · refine ⟨r.len, ⟨h1, h2⟩, .inr ⟨g, 0, cur, T, fr, rfl, hg, fun j x hx => ?_⟩⟩
    have hv := vs_get hx
    rw [← ht, List.getElem?_take] at hv
    split at hv
    · simpa using hv
    · cases hv
theorem RowP.isSome {h : Hp} {sz T A n cp xs} (r : RowP h sz T A n cp xs) (hn : 0 < n) : ∃ g, A = some ⟨g, 0, none⟩ := by
  rcases r.alt with ⟨_, h, _⟩ | ⟨g, cur, fr, e, _⟩
  · omega
  · exact ⟨g, e⟩
section
variable {P : Program} {n : Nat} {c : Cx} {L : List (Nat × TV)} {H : List Res} {next : List (Nat × TV) → List Res → Prop} {d : Option Tmp} {ty : TypeId} {ps : String} {af : Array Edge} {gd : Option (Nat × Bool)}
variable {Q : Exit → Act → World → Prop} {ops : Array Oper} {rest : List Oper}
theorem W_fact {φ : Prop} (hf : ∀ w, S c H w → φ) (h : φ → W P ops Q rest n c L H) : W P ops Q rest n c L H := ⟨fun hp a w he hs => (h (hf w hs)).go hp a w he hs⟩
theorem C_fact {code} {φ : Prop} (hf : ∀ w, S c H w → φ) (h : φ → C P code Q n c L H) : C P code Q n c L H := ⟨fun hp a w he hs => (h (hf w hs)).go hp a w he hs⟩
theorem S.rowP {w} {i : Nat} {sz T A m cp xs} (h : S c H w) (hr : getR H i = some (Row sz T A m cp xs)) : ∃ o, RowP o sz T A m cp xs ∧ inW o w ∧ Hp.dj c.o o := h.get hr
theorem rd_len {t : Nat} {p : Operand} {A : Option Addr} {m cp : Nat} {e : TypeId} (ht : P.underlying t = some (.slice e)) (hx : ev L p = some (.sl A m cp)) :
    Rd P ⟨d, .call { callee := .builtin .len, args := #[p], argTypes := #[t] }, ty, ps, af, gd⟩ n c L (.i64 m) := by
  refine ⟨fun a he w _ => ?_⟩
  have hu : (underlying t).run P w = .ok (.slice e) w := by simp [underlying, program, Sem.run, ht, go_sem]
  simp [execOp, resolve, invoke, builtin, Builtin.len_, ev_spec he hx, TV.v, hu, goInt]
theorem run_indexAt {t e sz : Nat} {w : World} {a : Addr} {m cp : Nat} {v : Value} {k : IntKind} {z : Int} (ht : P.underlying t = some (.slice e)) (hsz : ∀ w, (Go.sizeOf e).run P w = .ok sz w) (hv : v = .int k z) (hz : 0 ≤ z ∧ z < m) :
    (Instr.indexAt t (.slice (some a) m cp) v).run P w = .ok (.pointer (some (a.add (z.toNat * sz)))) w := by
  have hu : (underlying t).run P w = .ok (.slice e) w := by simp [underlying, program, Sem.run, ht, go_sem]
  subst hv
  simp [Instr.indexAt, asIntOf, hu, hz, hsz]
theorem rd_index {t e sz : Nat} {p q : Operand} {A : Option Addr} {m cp : Nat} {xs : List TV} {y : TV} {z : Int} (ht : P.underlying t = some (.slice e)) (hsz : ∀ w, (Go.sizeOf e).run P w = .ok sz w) (hR : RS c.o sz A m cp xs) (hx : ev L p = some (.sl A m cp)) (hy : ev L q = some y) (hz : cntTV y = some z) (hb : 0 ≤ z ∧ z < m) :
    Rd P ⟨d, .indexAddr t p q, ty, ps, af, gd⟩ n c L (.el A (z.toNat * sz)) := by
  refine ⟨fun a he w _ => ?_⟩
  obtain ⟨b, rfl, _⟩ := hR.addr (by omega)
  obtain ⟨k, hk⟩ := cntTV_v hz
  have := run_indexAt (P := P) (w := w) (a := b) (cp := cp) ht hsz hk hb
  simp [execOp, ev_spec he hx, ev_spec he hy, TV.v, this]
theorem op_index {t e sz : Nat} {dd : Nat} {p q : Operand} {A : Option Addr} {m cp T : Nat} {xs : List TV} {y : TV} {z : Int} (i : Nat) (ht : P.underlying t = some (.slice e)) (hsz : ∀ w, (Go.sizeOf e).run P w = .ok sz w) (hx : ev L p = some (.sl A m cp)) (hr : getR H i = some (Row sz T A m cp xs)) (hy : ev L q = some y) (hz : cntTV y = some z) (hb : 0 ≤ z ∧ z < m) (hdn : Nat.blt dd n = true)
    (h : next ((dd, .el A (z.toNat * sz)) :: L) H) : Op1 P ⟨some dd, .indexAddr t p q, ty, ps, af, gd⟩ n c L H next := by
  refine ⟨fun K Q hK a w he hs => ?_⟩
  obtain ⟨o, hrow, hi, _⟩ := hs.rowP hr
  obtain ⟨g, rfl⟩ := hrow.isSome (by omega)
  obtain ⟨k, hk⟩ := cntTV_v hz
  have := run_indexAt (P := P) (w := w) (a := ⟨g, 0, none⟩) (cp := cp) ht hsz hk hb
  have hrun : (execOp a.eval ⟨some dd, .indexAddr t p q, ty, ps, af, gd⟩).run P w = .ok (.value (TV.el (some ⟨g, 0, none⟩) (z.toNat * sz)).v) w := by simp [execOp, ev_spec he hx, ev_spec he hy, TV.v, this]
  unfold Oper.wp; rw [hrun]
  exact hK _ _ h _ w (he.put (by simpa using hdn)) hs
theorem rd_fieldAddr_el {s f off : Nat} {p : Operand} {A : Option Addr} {k : Nat} {a : Addr} (hf : FA P s f off) (hl : ev L p = some (.el A k)) (hA : A = some a ∧ a.spot = none) : Rd P ⟨d, .fieldAddr s p f, ty, ps, af, gd⟩ n c L (.el A (k + off)) := by
  refine ⟨fun ac he w _ => ?_⟩
  obtain ⟨rfl, hs⟩ := hA
  simp [execOp, ev_spec he hl, TV.v, hf (a.add k) w, add_add a hs]
theorem rd_load_el {t : Nat} {p : Operand} {sz : Nat} {A : Option Addr} {m cp k : Nat} {xs : List TV} {x : TV} (hR : RS c.o sz A m cp xs) (hl : ev L p = some (.el A k)) (ht : Scal P t) (hx : xs[k]? = some x) :
    Rd P ⟨d, .load t p, ty, ps, af, gd⟩ n c L x := by
  refine ⟨fun a he w hi => ?_⟩
  have hk := (List.getElem?_eq_some_iff.1 hx).1
  have hm : 0 < m := pos_of_len hR.len hk
  obtain ⟨b, rfl, _⟩ := hR.addr hm
  have := run_load_cell (P := P) ht (hR.cell hi rfl hx)
  simp [execOp, ev_spec he hl, TV.v, this]
theorem rd_loads_el {t k0 : Nat} {p : Operand} {sz : Nat} {A : Option Addr} {m cp k : Nat} {xs ys : List TV} (hR : RS c.o sz A m cp xs) (hl : ev L p = some (.el A k)) (ht : Aggr P t k0) (hx : (xs.drop k).take k0 = ys) (hk : ys.length = k0) (h0 : 0 < m) :
    Rd P ⟨d, .load t p, ty, ps, af, gd⟩ n c L (.agg ys) := by
  refine ⟨fun a he w hi => ?_⟩
  obtain ⟨b, rfl, hb⟩ := hR.addr h0
  have hcell : ∀ q v, (TV.vs ys)[q]? = some v → w.cell? ((b.add k).add q) = some v := by
    intro q v hq
    rw [TV.vs_map] at hq
    obtain ⟨x, hx', rfl⟩ := by simpa using hq
    subst hx
    have : xs[k + q]? = some x := by
      rw [List.getElem?_take] at hx'
      split at hx'
      · simpa using hx'
      · cases hx'
    rw [add_add b hb]
    exact hR.cell hi rfl this
  have := run_load_agg (P := P) ht (by rw [vs_length]; exact hk) hcell
  simp [execOp, ev_spec he hl, TV.v, this]
theorem op_load_el {t dd : Nat} {p : Operand} {sz T : Nat} {A : Option Addr} {m cp k : Nat} {xs : List TV} {x : TV} (i : Nat) (hl : ev L p = some (.el A k)) (hr : getR H i = some (Row sz T A m cp xs)) (ht : Scal P t) (hx : xs[k]? = some x) (hdn : Nat.blt dd n = true)
    (h : next ((dd, x) :: L) H) : Op1 P ⟨some dd, .load t p, ty, ps, af, gd⟩ n c L H next := by
  refine ⟨fun K Q hK a w he hs => ?_⟩
  obtain ⟨o, hrow, hi, _⟩ := hs.rowP hr
  have hrd : Rd P ⟨some dd, .load t p, ty, ps, af, gd⟩ n ⟨c.w0, o⟩ L x := rd_load_el (hrow.rs) hl ht hx
  unfold Oper.wp; rw [hrd.go a he w hi]
  exact hK _ _ h _ w (he.put (by simpa using hdn)) hs
theorem op_loads_el {t dd k0 : Nat} {p : Operand} {sz T : Nat} {A : Option Addr} {m cp k : Nat} {xs ys : List TV} (i : Nat) (hl : ev L p = some (.el A k)) (hr : getR H i = some (Row sz T A m cp xs)) (ht : Aggr P t k0) (hx : (xs.drop k).take k0 = ys) (hk : ys.length = k0) (h0 : 0 < m) (hdn : Nat.blt dd n = true)
    (h : next ((dd, .agg ys) :: L) H) : Op1 P ⟨some dd, .load t p, ty, ps, af, gd⟩ n c L H next := by
  refine ⟨fun K Q hK a w he hs => ?_⟩
  obtain ⟨o, hrow, hi, _⟩ := hs.rowP hr
  have hrd : Rd P ⟨some dd, .load t p, ty, ps, af, gd⟩ n ⟨c.w0, o⟩ L (.agg ys) := rd_loads_el (hrow.rs) hl ht hx hk h0
  unfold Oper.wp; rw [hrd.go a he w hi]
  exact hK _ _ h _ w (he.put (by simpa using hdn)) hs
theorem frozen_ok {w : World} {g T j : Nat} {cs : Array Value} {fr} (h : w.heap[g]? = some (.cells cs T fr)) (hf : okfr fr cs.size) (hj : j < cs.size) : w.frozen? ⟨g, j, none⟩ = false := by
  simp only [World.frozen?, h]
  rcases hf with rfl | hf
  · simp
  · have : ¬ fr.1 ≤ j := by omega
    simp [this]
theorem vs_take_set {cur : Array Value} {xs : List TV} {k N : Nat} {x : TV} (ht : cur.toList.take N = TV.vs xs) : (cur.setIfInBounds k x.v).toList.take N = TV.vs (xs.set k x) := by
  rw [vs_set, ← ht]
  simp [List.take_set]
theorem op_store_el {t : Nat} {p q : Operand} {sz T : Nat} {A : Option Addr} {m cp k : Nat} {xs : List TV} {x : TV} {H'} (i : Nat) (hl : ev L p = some (.el A k)) (hq : ev L q = some x) (hr : getR H i = some (Row sz T A m cp xs)) (ht : Scal P t) (hx : x.one = true) (hk : k < xs.length)
    (hu : setR H i (Row sz T A m cp (xs.set k x)) = some H') (h : next L H') : Op1 P ⟨none, .store t p q, ty, ps, af, gd⟩ n c L H next := by
  refine ⟨fun K Q hK a w he hs => ?_⟩
  obtain ⟨G, pm, pm'⟩ := getR_perm hr
  obtain ⟨o, hrow, hi, _⟩ := hs.rowP hr
  have hm : 0 < m := pos_of_len hrow.len hk
  obtain ⟨g, rfl⟩ := hrow.isSome hm
  have hlen := hrow.len
  rcases hrow.alt with ⟨e, _⟩ | ⟨g', cur, fr, e, hg, hfr, h1, h2, hsz, htk⟩
  · cases e
  · obtain rfl : g = g' := by simpa using e
    have hblk := hi _ _ hg
    have hkc : k < cur.size := by
      have : (cur.toList.take (m * sz)).length = xs.length := by rw [htk, vs_length]
      simp at this; omega
    have hcell : w.cell? ((⟨g, 0, none⟩ : Addr).add k) = some cur[k] := by rw [add_plain]; simp [World.cell?, hblk, hkc]
    have := run_storeAt (P := P) ht (TV.one_v hx) hcell (by rw [add_plain]; simpa using frozen_ok hblk hfr hkc)
    have hrun : (execOp a.eval ⟨none, .store t p q, ty, ps, af, gd⟩).run P w = .ok .skip (w.setCell ⟨g, k, none⟩ x.v) := by
      rw [add_plain] at this
      simp [execOp, ev_spec he hl, ev_spec he hq, TV.v, add_plain] at this ⊢
      simp [this]
    unfold Oper.wp; rw [hrun]
    refine hK _ _ h _ _ he (S.perm ?_ (pm' _ _ hu).symm)
    refine (hs.perm pm).step (fun h1' hb hi _ => ?_) ⟨rfl, rfl, rfl, by simp [World.setCell]⟩
    have hb : RowP h1' sz T (some ⟨g, 0, none⟩) m cp xs := hb
    rcases hb.alt with ⟨e, _⟩ | ⟨g', cur', fr', e, hg', hfr', h1'', h2', hsz', htk'⟩
    · cases e
    · obtain rfl : g = g' := by simpa using e
      have e2 : cur' = cur ∧ fr' = fr := by
        have := hi _ _ hg'; rw [hblk] at this; simp at this; exact ⟨this.1.symm, this.2.symm⟩
      obtain ⟨rfl, rfl⟩ := e2
      refine ⟨fun j => if j = g then some (.cells (cur'.setIfInBounds k x.v) T fr') else h1' j, ⟨by simpa using hlen, .inr ⟨g, _, fr', rfl, by simp, by simpa using hfr', h1, h2, by simpa using hsz', vs_take_set htk'⟩⟩, ?_, ?_, ?_⟩
      · intro j y hy
        dsimp only at hy
        split at hy
        · rename_i e; subst e; cases hy; rw [heap_setCell_same hblk]
        · rename_i e; rw [heap_setCell_other _ _ _ e]; exact hi j y hy
      · intro j hj
        left
        dsimp only at hj
        split at hj
        · rename_i e; subst e; rw [hg']; simp
        · exact hj
      · intro j y hj hy
        have : j ≠ g := fun e => by subst e; rw [hg'] at hj; cases hj
        rw [heap_setCell_other _ _ _ this]; exact hy
end
end Go.Hb
