/- A part of the proofs of this seat: rules of a logic of owned and of lent memory, what functions compute, or their walks. -/
import Derived.Test.YtclediplagkblaaGreatCore6
set_option linter.unusedVariables false
set_option linter.unusedSimpArgs false
namespace Go.Hb
open Go
structure SlT (P : Program) (t e sz by_ : Nat) : Prop where
  und : P.underlying t = some (.slice e)
  inf : ∃ i z, P.info? e = some i ∧ i.zero = some z ∧ i.size = sz ∧ i.bytes = by_ ∧ z.cells.size = sz
  pos : 0 < sz
theorem SlT.mk' {P : Program} {t e sz by_ : Nat} (z : Value) (h1 : P.underlying t = some (.slice e)) (h2 : (P.info? e).map (fun i => (i.zero, i.size, i.bytes)) = some (some z, sz, by_)) (h3 : z.cells.size = sz) (h4 : 0 < sz) : SlT P t e sz by_ := by
  obtain ⟨i, hi, e1⟩ := Option.map_eq_some_iff.1 h2
  simp only [Prod.mk.injEq] at e1
  exact ⟨h1, ⟨i, z, hi, e1.1, e1.2.1, e1.2.2, h3⟩, h4⟩
theorem SlT.sizeOf {P : Program} {t e sz by_ : Nat} (h : SlT P t e sz by_) : ∀ w, (Go.sizeOf e).run P w = .ok sz w := by
  intro w
  obtain ⟨i, z, hi, _, hs, _⟩ := h.inf
  simp [Go.sizeOf, typeInfo, program, Sem.run, hi, hs, go_sem]
theorem SlT.zero {P : Program} {t e sz by_ : Nat} (h : SlT P t e sz by_) : ∃ z : Value, z.cells.size = sz ∧ ∀ w, (zeroValue e).run P w = .ok z w := by
  obtain ⟨i, z, hi, hz, hs, _, hc⟩ := h.inf
  exact ⟨z, hc, fun w => by simp [zeroValue, typeInfo, program, Sem.run, hi, hz, go_sem]⟩
def wr (cur : Array Value) : Nat → List Value → Array Value
  | _, [] => cur
  | k, v :: vs => wr (cur.setIfInBounds k v) (k + 1) vs
theorem wr_size (vs : List Value) : ∀ (cur : Array Value) (k : Nat), (wr cur k vs).size = cur.size := by
  induction vs with
  | nil => intros; rfl
  | cons v vs ih => intro cur k; simp [wr, ih]
theorem wr_list (vs : List Value) : ∀ (cur : Array Value) (k : Nat), k + vs.length ≤ cur.size → (wr cur k vs).toList = cur.toList.take k ++ vs ++ cur.toList.drop (k + vs.length) := by
  induction vs with
  | nil => intro cur k h; simp [wr]
  | cons v vs ih =>
    intro cur k h
    simp only [List.length_cons] at h
    rw [wr, ih _ _ (by simp; omega)]
    have hlt : k < cur.toList.length := by simp; omega
    have h1 : (cur.toList.take k).length = k := by rw [List.length_take]; omega
    rw [Array.toList_setIfInBounds, List.set_eq_take_append_cons_drop, if_pos hlt, List.take_append, List.drop_append, h1]
    simp only [show k + 1 - k = 1 by omega, show k + 1 + vs.length - k = vs.length + 1 by omega, List.take_succ_cons, List.take_zero, List.drop_succ_cons, List.drop_drop]
    rw [List.take_of_length_le (by omega), List.drop_of_length_le (by omega)]
    simp [show k + (vs.length + 1) = k + 1 + vs.length by omega]
theorem setRow_setRow (w : World) (g : Nat) (c1 c2 : Array Value) : (w.setRow g c1).setRow g c2 = w.setRow g c2 := by
  simp only [World.setRow]
  congr 1
  apply Array.ext_getElem?
  intro i
  simp only [Array.getElem?_modify]
  split
  · rename_i e; subst e
    cases w.heap[g]? with
    | none => rfl
    | some o => cases o <;> rfl
  · rfl
theorem setCell_setRow {w : World} {g k T : Nat} {cur : Array Value} {fr} (h : w.heap[g]? = some (.cells cur T fr)) (v : Value) : w.setCell ⟨g, k, none⟩ v = w.setRow g (cur.setIfInBounds k v) := by
  simp only [World.setCell, World.setRow]
  congr 1
  apply Array.ext_getElem?
  intro i
  simp only [Array.getElem?_modify]
  split
  · rename_i e; subst e; simp [h]
  · rfl
theorem run_storeCells (P : Program) (g T : Nat) (fr : Nat × Nat) : ∀ (vs : List Value) (off i : Nat) (cur : Array Value) (w : World), w.heap[g]? = some (.cells cur T fr) → off + i + vs.length ≤ cur.size → okfr fr cur.size → (∀ v ∈ vs, v.oneCell' = true) →
    (storeCells ⟨g, off, none⟩ vs i).run P w = .ok () (w.setRow g (wr cur (off + i) vs)) := by
  intro vs
  induction vs with
  | nil =>
    intro off i cur w h _ _ _
    simp only [storeCells, wr, Sem.run_pure]
    congr 1
    simp only [World.setRow]
    have : w.heap = w.heap.modify g fun x => match x with | .cells _ t f => .cells cur t f | o => o := by
      apply Array.ext_getElem?
      intro i
      simp only [Array.getElem?_modify]
      split
      · rename_i e; subst e; simp [h]
      · rfl
    exact congrArg (fun hp => (⟨hp, w.tape, w.drawn, w.os, w.output⟩ : World)) this
  | cons v vs ih =>
    intro off i cur w h hl hf h1
    simp only [List.length_cons] at hl
    have hlt : off + i < cur.size := by omega
    have hc : w.cell? ⟨g, off + i, none⟩ = some cur[off + i] := by simp [World.cell?, h, hlt]
    have hs := run_store_cell (P := P) (h1 v (by simp)) hc (frozen_ok h hf hlt)
    have hb := heap_setCell_same (j := off + i) h v
    have := ih off (i + 1) (cur.setIfInBounds (off + i) v) _ hb (by simp; omega) (by simpa using hf) (fun u hu => h1 u (by simp [hu]))
    simp only [storeCells, Sem.run_bind, add_plain, hs, Result.andThen_ok, this]
    rw [setCell_setRow h, setRow_setRow, wr]
    simp only [Nat.add_assoc]
theorem run_firstCells {P : Program} {w : World} {sz m cp : Nat} {a : Addr} {news : List Value} (hl : news.length = m * sz) (hc : ∀ j u, news[j]? = some u → w.cell? (a.add j) = some u) : (Builtin.firstCells sz m (.slice (some a) m cp)).run P w = .ok news.toArray w := by
  have := run_loadCells (P := P) (w := w) (a := a) (m * sz) 0 #[] news hl (by simpa using hc)
  simp [Builtin.firstCells, loadCells, this]
theorem run_append_zero {P : Program} {t e sz by_ ty : Nat} {w : World} {A A' : Option Addr} {k cp cp' : Nat} (hT : SlT P t e sz by_) (hk : k ≤ cp) : (Builtin.append_ #[t, t] ty #[.slice A k cp, .slice A' 0 cp']).run P w = .ok (.slice A k cp) w := by
  have hu : (underlying t).run P w = .ok (.slice e) w := by simp [underlying, program, Sem.run, hT.und, go_sem]
  have hf : (Builtin.firstCells sz 0 (.slice A' 0 cp')).run P w = .ok #[] w := by
    cases A' with
    | none => rfl
    | some a => exact run_firstCells (news := []) (by simp) (by simp)
  cases A <;> simp [Builtin.append_, hu, hT.sizeOf, Builtin.lenOf, hk, hf, storeCells]
theorem run_append {P : Program} {t e sz by_ ty : Nat} {w : World} {h : Hp} {A : Option Addr} {k cp m cp' : Nat} {xs news : List TV} {ad : Addr} (hT : SlT P t e sz by_) (hrow : RowP h sz e A k cp xs) (hi : inW h w)
    (hl : news.length = m * sz) (hm : 0 < m) (hc : ∀ j u, (TV.vs news)[j]? = some u → w.cell? (ad.add j) = some u) (h1 : ∀ x ∈ news, x.one = true) (hb : (k + m) * by_ ≤ 140737488355328) (hb' : k + m ≤ 9223372036854775807) :
    ∃ A2 c2 w', (Builtin.append_ #[t, t] ty #[.slice A k cp, .slice (some ad) m cp']).run P w = .ok (.slice A2 (k + m) c2) w' ∧ Mt w w' ∧ A2.isSome = true ∧
      ∃ h', RowP h' sz e A2 (k + m) c2 (xs ++ news) ∧ inW h' w' ∧ (∀ j, h' j ≠ none → h j ≠ none ∨ w.heap.size ≤ j) ∧ (∀ j x, h j = none → w.heap[j]? = some x → w'.heap[j]? = some x) := by
  have hu : (underlying t).run P w = .ok (.slice e) w := by simp [underlying, program, Sem.run, hT.und, go_sem]
  have hvl : (TV.vs news).length = m * sz := by rw [vs_length, hl]
  obtain ⟨i, z, hinf, hz, hsz, hby, hzs⟩ := hT.inf
  have hfc := run_firstCells (P := P) (w := w) (cp := cp') hvl hc
  have hxl : (xs ++ news).length = (k + m) * sz := by rw [List.length_append, hrow.len, hl, Nat.add_mul]
  have grown : ∀ (old : Nat) (olds : List TV), old < k + m → olds = xs → ∃ h', RowP h' sz e (some ⟨w.heap.size, 0, none⟩) (k + m) (grownCap w (k + m) old e) (xs ++ news) ∧
      inW h' (w.drew.alloc (.cells ((TV.vs olds).toArray ++ (TV.vs news).toArray ++ Builtin.zeroCells z.cells (grownCap w (k + m) old e - (k + m))) e)) ∧
      (∀ j, h' j ≠ none → h j ≠ none ∨ w.heap.size ≤ j) ∧ (∀ j x, h j = none → w.heap[j]? = some x → (w.drew.alloc (.cells ((TV.vs olds).toArray ++ (TV.vs news).toArray ++ Builtin.zeroCells z.cells (grownCap w (k + m) old e - (k + m))) e)).heap[j]? = some x) := by
    intro old olds ho heq
    subst heq
    have hge := grownCap_ge w (k + m) old e
    have hcm : grownCap w (k + m) old e ≤ maxLen := grownCap_le_maxLen w (k + m) old e (by simp only [maxLen]; omega)
    refine ⟨fun j => if j = w.heap.size then some (.cells ((TV.vs olds).toArray ++ (TV.vs news).toArray ++ Builtin.zeroCells z.cells (grownCap w (k + m) old e - (k + m))) e) else none,
      ⟨hxl, .inr ⟨_, _, (0, 0), rfl, if_pos rfl, .inl rfl, hge, hcm, ?_, ?_⟩⟩, ?_, ?_, ?_⟩
    · simp only [Array.size_append, List.size_toArray, size_zeroCells, hzs, vs_length, hl, hrow.len, ← Nat.add_mul]
      congr 1; omega
    · simp only [Array.toList_append, List.append_assoc]
      rw [← List.append_assoc]
      have : (TV.vs olds ++ TV.vs news).length = (k + m) * sz := by simp [vs_length, hl, hrow.len, Nat.add_mul]
      rw [← this, List.take_left']
      · simp [TV.vs_map]
      · simp
    · intro j x hx
      dsimp only at hx
      split at hx
      · rename_i e; cases hx; subst e; exact heap_alloc_new w.drew _
      · cases hx
    · intro j hj
      right
      dsimp only at hj
      split at hj
      · omega
      · exact absurd rfl hj
    · intro j x _ hx
      have := (Array.getElem?_eq_some_iff.1 hx).1
      exact (heap_alloc_old w.drew _ (r := j) this).trans hx
  have mt : ∀ o, Mt w (w.drew.alloc o) := fun o => ⟨rfl, rfl, rfl, by simp⟩
  rcases hrow.alt with ⟨rfl, rfl, rfl⟩ | ⟨g, cur, fr, rfl, hg, hfr, hkc, hcm, hcs, htk⟩
  · have hx : xs = [] := List.eq_nil_of_length_eq_zero (by simpa using hrow.len)
    subst hx
    have hr := run_append_nil (P := P) w t ty e i z hT.und hinf hz ad m cp' (TV.vs news) (by rw [hvl, hsz]) hc hm (by omega) (by rw [hby]; simp only [Nat.zero_add] at hb; omega)
    obtain ⟨h', r1, r2, r3, r4⟩ := grown 0 [] (by omega) rfl
    simp only [Nat.zero_add, TV.vs, List.nil_append, Array.empty_append] at hr r1 r2 r4 ⊢
    exact ⟨_, _, _, hr, mt _, rfl, h', r1, r2, r3, r4⟩
  · have hblk := hi _ _ hg
    by_cases hroom : k + m ≤ cp
    · have hfit : k * sz + (TV.vs news).length ≤ cur.size := by rw [hvl, hcs, ← Nat.add_mul]; exact Nat.mul_le_mul_right _ hroom
      have h1v : ∀ v ∈ TV.vs news, v.oneCell' = true := by
        intro v hv; rw [TV.vs_map] at hv
        obtain ⟨x, hx, rfl⟩ := List.mem_map.1 hv
        exact TV.one_v (h1 x hx)
      have hst := run_storeCells P g e fr (TV.vs news) (k * sz) 0 cur w hblk (by simpa using hfit) hfr h1v
      simp only [Nat.add_zero] at hst
      refine ⟨some ⟨g, 0, none⟩, cp, w.setRow g (wr cur (k * sz) (TV.vs news)), ?_, ⟨rfl, rfl, rfl, by simp⟩, rfl, fun j => if j = g then some (.cells (wr cur (k * sz) (TV.vs news)) e fr) else h j, ⟨hxl, .inr ⟨g, _, fr, rfl, if_pos rfl, by rw [wr_size]; exact hfr, hroom, hcm, by rw [wr_size]; exact hcs, ?_⟩⟩, ?_, ?_, ?_⟩
      · simp [Builtin.append_, hu, hT.sizeOf, Builtin.lenOf, hroom, hfc, add_plain, hst]
      · rw [wr_list _ _ _ hfit, htk]
        have : (TV.vs xs ++ TV.vs news).length = (k + m) * sz := by simp [vs_length, hl, hrow.len, Nat.add_mul]
        rw [← this, List.take_left']
        · simp [TV.vs_map]
        · simp
      · intro j x hx
        dsimp only at hx
        split at hx
        · rename_i e; subst e; cases hx; exact setRow_heap w _ cur _ _ fr hblk
        · rename_i e; rw [setRow_other w g j _ e]; exact hi j x hx
      · intro j hj
        left
        dsimp only at hj
        split at hj
        · rename_i e; subst e; rw [hg]; simp
        · exact hj
      · intro j x hj hx
        have : j ≠ g := fun e => by subst e; rw [hg] at hj; cases hj
        rw [setRow_other w g j _ this]; exact hx
    · have holds : ∀ j u, (TV.vs xs)[j]? = some u → w.cell? ((⟨g, 0, none⟩ : Addr).add j) = some u := by
        intro j u hu
        rw [TV.vs_map] at hu
        obtain ⟨x, hx, rfl⟩ := by simpa using hu
        exact hrow.rs.cell hi rfl hx
      have hr := run_append_grow (P := P) w t ty e i z hT.und hinf hz ⟨g, 0, none⟩ k cp (TV.vs xs) (by rw [vs_length, hrow.len, hsz]) holds ad m cp' (TV.vs news) (by rw [hvl, hsz]) hc (by omega) (by omega) (by rw [hby]; exact growslice_fits (by omega) hb)
      obtain ⟨h', r1, r2, r3, r4⟩ := grown cp xs (by omega) rfl
      exact ⟨_, _, _, hr, mt _, rfl, h', r1, r2, r3, r4⟩
section
variable {P : Program} {n : Nat} {c : Cx} {L : List (Nat × TV)} {H : List Res} {next : List (Nat × TV) → List Res → Prop} {ty : TypeId} {ps : String} {af : Array Edge} {gd : Option (Nat × Bool)}
variable {Q : Exit → Act → World → Prop} {ops : Array Oper} {rest : List Oper}
def Src (c : Cx) (H : List Res) (sz : Nat) (A : Option Addr) (m : Nat) (news : List TV) : Prop := news.length = m * sz ∧ ∀ w, S c H w → 0 < m → ∃ ad, A = some ad ∧ ∀ j u, (TV.vs news)[j]? = some u → w.cell? (ad.add j) = some u
theorem Src.ofRS {sz A m cp news} (h : RS c.o sz A m cp news) : Src c H sz A m news := ⟨h.len, fun w hs hm => by
  obtain ⟨a, e, _⟩ := h.addr hm
  refine ⟨a, e, fun j u hu => ?_⟩
  rw [TV.vs_map] at hu
  obtain ⟨x, hx, rfl⟩ := by simpa using hu
  exact h.cell hs.2.1 e hx⟩
theorem Src.ofRow {sz T A m cp news} (i : Nat) (hr : getR H i = some (Row sz T A m cp news)) (hl : news.length = m * sz) : Src c H sz A m news := ⟨hl, fun w hs hm => by
  obtain ⟨o, hrow, hi, _⟩ := hs.rowP hr
  obtain ⟨g, e⟩ := hrow.isSome hm
  refine ⟨_, e, fun j u hu => ?_⟩
  rw [TV.vs_map] at hu
  obtain ⟨x, hx, rfl⟩ := by simpa using hu
  exact hrow.rs.cell hi e hx⟩
theorem op_append {t e sz by_ d : Nat} {p q : Operand} {A A' : Option Addr} {k cp m cp' : Nat} {xs news : List TV} (i : Nat) (hT : SlT P t e sz by_) (hp : ev L p = some (.sl A k cp)) (hq : ev L q = some (.sl A' m cp')) (hr : getR H i = some (Row sz e A k cp xs))
    (hsrc : Src c H sz A' m news) (h1 : news.all TV.one = true) (hb : (k + m) * by_ ≤ 140737488355328 ∧ k + m ≤ 9223372036854775807) (hdn : Nat.blt d n = true)
    (h : ∀ A2 c2 H', setR H i (Row sz e A2 (k + m) c2 (xs ++ news)) = some H' → next ((d, .sl A2 (k + m) c2) :: L) H') :
    Op1 P ⟨some d, .call { callee := .builtin .append, args := #[p, q], argTypes := #[t, t] }, ty, ps, af, gd⟩ n c L H next := by
  refine ⟨fun K Q hK a w he hs => ?_⟩
  obtain ⟨G, pm, pm'⟩ := getR_perm hr
  obtain ⟨o, hrow, hi, _⟩ := hs.rowP hr
  have h1 : ∀ x ∈ news, x.one = true := by simpa using h1
  have hset : ∀ r', ∃ H', setR H i r' = some H' := by
    intro r'
    clear pm pm' h hrow hsrc hs
    induction H generalizing i with
    | nil => simp [getR] at hr
    | cons x H ih =>
      cases i with
      | zero => exact ⟨_, rfl⟩
      | succ i => obtain ⟨H', e⟩ := ih i hr; exact ⟨x :: H', by simp [setR, e]⟩
  have hkc : k ≤ cp := by rcases hrow.alt with ⟨_, h, h'⟩ | ⟨_, _, _, _, _, _, h, _⟩ <;> omega
  rcases Nat.eq_zero_or_pos m with hm | hm
  · subst hm
    have hn : news = [] := List.eq_nil_of_length_eq_zero (by simpa using hsrc.1)
    subst hn
    have := run_append_zero (P := P) (ty := ty) (w := w) (A := A) (A' := A') (cp' := cp') hT hkc
    have hrun : (execOp a.eval ⟨some d, .call { callee := .builtin .append, args := #[p, q], argTypes := #[t, t] }, ty, ps, af, gd⟩).run P w = .ok (.value (TV.sl A (k + 0) cp).v) w := by
      simp [execOp, resolve, invoke, builtin, ev_spec he hp, ev_spec he hq, TV.v, this]
    unfold Oper.wp; rw [hrun]
    obtain ⟨H', hH'⟩ := hset (Row sz e A (k + 0) cp (xs ++ []))
    refine hK _ _ (h A cp H' hH') _ w (he.put (by simpa using hdn)) (S.perm ?_ (pm' _ _ hH').symm)
    simpa using hs.perm pm
  · obtain ⟨ad, rfl, hcell⟩ := hsrc.2 w hs hm
    obtain ⟨A2, c2, w', hrun, mt, _, _⟩ := run_append (P := P) (ty := ty) (cp' := cp') hT hrow hi hsrc.1 hm hcell h1 hb.1 hb.2
    have hrun' : (execOp a.eval ⟨some d, .call { callee := .builtin .append, args := #[p, q], argTypes := #[t, t] }, ty, ps, af, gd⟩).run P w = .ok (.value (TV.sl A2 (k + m) c2).v) w' := by
      simp [execOp, resolve, invoke, builtin, ev_spec he hp, ev_spec he hq, TV.v, hrun]
    unfold Oper.wp; rw [hrun']
    obtain ⟨H', hH'⟩ := hset (Row sz e A2 (k + m) c2 (xs ++ news))
    refine hK _ _ (h A2 c2 H' hH') _ w' (he.put (by simpa using hdn)) (S.perm ?_ (pm' _ _ hH').symm)
    refine (hs.perm pm).step (fun h1' hb' hi' _ => ?_) mt
    obtain ⟨A3, c3, w3, hrun3, _, _, h', r1, r2, r3, r4⟩ := run_append (P := P) (ty := ty) (cp' := cp') hT (show RowP h1' sz e A k cp xs from hb') hi' hsrc.1 hm hcell h1 hb.1 hb.2
    rw [hrun] at hrun3
    simp only [Result.ok.injEq, Value.slice.injEq] at hrun3
    obtain ⟨⟨rfl, _, rfl⟩, rfl⟩ := hrun3
    exact ⟨h', r1, r2, r3, r4⟩
theorem W_nil_row (sz T : Nat) (h : W P ops Q rest n c L (Row sz T none 0 0 [] :: H)) : W P ops Q rest n c L H := by
  refine ⟨fun hp a w he hs => ?_⟩
  refine h.go hp a w he ?_
  exact hs.emp.step (fun h1 he _ _ => ⟨fun _ => none, ⟨by simp, .inl ⟨rfl, rfl, rfl⟩⟩, fun _ _ e => (by cases e), fun k hk => absurd rfl hk, fun _ _ _ hx => hx⟩) (Mt.refl w)
theorem C_nil_row {code} (sz T : Nat) (h : C P code Q n c L (Row sz T none 0 0 [] :: H)) : C P code Q n c L H := by
  refine ⟨fun hp a w he hs => ?_⟩
  refine h.go hp a w he ?_
  exact hs.emp.step (fun h1 he _ _ => ⟨fun _ => none, ⟨by simp, .inl ⟨rfl, rfl, rfl⟩⟩, fun _ _ e => (by cases e), fun k hk => absurd rfl hk, fun _ _ _ hx => hx⟩) (Mt.refl w)
theorem vs_append (a b : List TV) : TV.vs (a ++ b) = TV.vs a ++ TV.vs b := by simp [TV.vs_map]
theorem zeros_list {zs : List TV} {sz : Nat} (hzl : zs.length = sz) (hpos : 0 < sz) (k : Nat) : (List.range (k * sz)).map (fun x => (TV.vs zs).toArray[x % sz]!) = TV.vs ((List.range k).flatMap fun _ => zs) := by
  induction k with
  | zero => simp [TV.vs]
  | succ k ih =>
    rw [List.range_succ, List.flatMap_append, vs_append, ← ih, Nat.add_mul, Nat.one_mul, List.range_add, List.map_append]
    congr 1
    rw [List.map_map]
    apply List.ext_getElem
    · simp [hzl, vs_length]
    · intro j h1 h2
      simp at h1
      have : (k * sz + j) % sz = j := by rw [Nat.add_comm, Nat.add_mul_mod_self_right, Nat.mod_eq_of_lt h1]
      simp [this, TV.vs_map, hzl, h1]
theorem op_buildSlice {t e sz by_ d k : Nat} {parts : List (Nat × Operand)} {xs : List (Nat × TV)} {zs rs : List TV} (hT : SlT P t e sz by_) (hz : Zero P e zs) (hzl : zs.length = sz) (hx : evp L parts = some xs) (ho : xs.all (fun p => oneOrAgg p.2) = true)
    (hk : k * sz ≤ 4096) (hr : fillTV (fun i => some (i * sz, sz)) ((List.range k).flatMap fun _ => zs) xs = some rs) (hrl : Nat.beq rs.length (k * sz) = true) (hdn : Nat.blt d n = true)
    (h : ∀ A, A.isSome = true → next ((d, .sl A k k) :: L) (Row sz e A k k rs :: H)) :
    Op1 P ⟨some d, .buildSlice t k parts.toArray, ty, ps, af, gd⟩ n c L H next := by
  refine ⟨fun K Q hK a w he hs => ?_⟩
  have hu : (underlying t).run P w = .ok (.slice e) w := by simp [underlying, program, Sem.run, hT.und, go_sem]
  obtain ⟨v, hv, hvc⟩ := hz.run w
  have hrl := Nat.eq_of_beq_eq_true hrl
  have hfill := fill_spec xs _ rs (fun p hp => oneOrAgg_spec (by simp at ho; exact ho p.1 p.2 hp)) hr
  have hparts : parts.map (fun p => (p.1, a.eval p.2)) = xs.map fun p => (p.1, p.2.v) := evp_spec he hx
  have e0 : Array.map (fun x => match x with | (i, x) => (i, a.eval x)) parts.toArray = (parts.map (fun p => (p.1, a.eval p.2))).toArray := by simp
  have hzeros : (Array.range (k * sz)).map (fun x => v.cells[x % v.cells.size]!) = (TV.vs ((List.range k).flatMap fun _ => zs)).toArray := by
    rw [hvc, ← Array.toList_inj]
    simp only [Array.toList_map, Array.toList_range, List.size_toArray, vs_length, hzl]
    exact zeros_list hzl hT.pos k
  have hnew : (newRow e (TV.vs rs).toArray).run P w = .ok ⟨w.heap.size, 0, none⟩ (w.alloc (.cells (TV.vs rs).toArray e)) := rfl
  have hrun : (execOp a.eval ⟨some d, .buildSlice t k parts.toArray, ty, ps, af, gd⟩).run P w = .ok (.value (TV.sl (some ⟨w.heap.size, 0, none⟩) k k).v) (w.alloc (.cells (TV.vs rs).toArray e)) := by
    simp only [execOp, Instr.buildSlice, Sem.run_bind, hu, Result.andThen_ok, hT.sizeOf, e0]
    rw [if_neg (by simp; omega)]
    by_cases h0 : k * sz = 0
    · rw [if_pos h0]
      have hk0 : k = 0 := by rcases Nat.mul_eq_zero.1 h0 with h | h; exact h; have := hT.pos; omega
      subst hk0
      have e1 : Array.range 0 = #[] := rfl
      simp only [Sem.run_bind, Sem.run_pure, Result.andThen_ok, Nat.zero_mul, e1, List.map_toArray, List.map_nil]
      rw [hparts]
      have hf : Instr.fill (fun i => some (i * sz, sz)) #[] (xs.map fun p => (p.1, p.2.v)) = some (TV.vs rs).toArray := by simpa [TV.vs] using hfill
      rw [hf]
      simp only [Sem.run_bind, hnew]
      rfl
    · rw [if_neg h0]
      simp only [Sem.run_bind, hv, Sem.run_pure, Result.andThen_ok, hzeros]
      rw [hparts, hfill]
      simp only [Sem.run_bind, hnew]
      rfl
  unfold Oper.wp; rw [hrun]
  refine hK _ _ (h (some ⟨w.heap.size, 0, none⟩) rfl) _ _ (he.put (by simpa using hdn)) (hs.alloc (w' := w.alloc (.cells (TV.vs rs).toArray e)) rfl rfl rfl rfl ?_)
  have hpos := hT.pos
  refine ⟨hrl, .inr ⟨w.heap.size, _, (0, 0), rfl, if_pos rfl, .inl rfl, Nat.le_refl _, ?_, by simp [vs_length, hrl], ?_⟩⟩
  · have : k ≤ k * sz := Nat.le_mul_of_pos_right k hpos
    simp only [maxLen]; omega
  · rw [← hrl]; simp [List.take_of_length_le, vs_length]
theorem one_u8 (l : List UInt8) : (l.map TV.u8).all TV.one = true := by simp [TV.one]
theorem one_u32 (l : List UInt32) : (l.map TV.u32).all TV.one = true := by simp [TV.one]
theorem one_u64 (l : List UInt64) : (l.map TV.u64).all TV.one = true := by simp [TV.one]
def dense : Nat → List (Nat × Operand) → Option (List Operand)
  | _, [] => some []
  | k, (i, p) :: t => match Nat.beq i k, dense (k + 1) t with
    | true, some l => some (p :: l)
    | _, _ => none
def appO : List TV → List TV → Option (List TV)
  | [], t => some t
  | x :: xs, t => match appO xs t with
    | some r => some (x :: r)
    | none => none
def catO (sz : Nat) : List TV → Option (List TV)
  | [] => some []
  | x :: xs => match Nat.beq x.cells.length sz, catO sz xs with
    | true, some t => appO x.cells t
    | _, _ => none
theorem appO_spec (a t : List TV) : appO a t = some (a ++ t) := by
  induction a with
  | nil => rfl
  | cons x a ih => simp [appO, ih]
theorem catO_spec {sz : Nat} : ∀ (xs rs : List TV), catO sz xs = some rs → rs = xs.flatMap TV.cells ∧ rs.length = xs.length * sz := by
  intro xs
  induction xs with
  | nil => intro rs h; simp only [catO, Option.some.injEq] at h; subst h; simp
  | cons x xs ih =>
    intro rs h
    simp only [catO] at h
    split at h
    · rename_i t hb ht
      rw [appO_spec] at h
      simp only [Option.some.injEq] at h; subst h
      obtain ⟨h1, h2⟩ := ih t ht
      have hb := Nat.eq_of_beq_eq_true hb
      refine ⟨by simp [h1], ?_⟩
      rw [List.length_append, h2, hb, List.length_cons, Nat.add_mul, Nat.one_mul, Nat.add_comm]
    · cases h
theorem repl_ok : ∀ (cs : List TV) (k : Nat) (xs : List TV), k + xs.length ≤ cs.length → repl cs k xs = some (cs.take k ++ xs ++ cs.drop (k + xs.length)) := by
  intro cs
  induction cs with
  | nil =>
    intro k xs h
    simp only [List.length_nil, Nat.le_zero_eq, Nat.add_eq_zero_iff] at h
    obtain ⟨rfl, h⟩ := h
    have := List.eq_nil_of_length_eq_zero h
    subst this; simp [repl]
  | cons c cs ih =>
    intro k xs h
    cases k with
    | zero =>
      cases xs with
      | nil => simp [repl]
      | cons x xs =>
        simp only [List.length_cons] at h
        have := ih 0 xs (by omega)
        simp [repl, this]
    | succ k =>
      simp only [List.length_cons] at h
      have := ih k xs (by omega)
      simp only [repl, this]
      rw [show k + 1 + xs.length = (k + xs.length) + 1 by omega]
      simp
theorem dense_fill {sz : Nat} {L : List (Nat × TV)} : ∀ (parts : List (Nat × Operand)) (k : Nat) (ps : List Operand) (xs rs cs : List TV), dense k parts = some ps → evs L ps = some xs → catO sz xs = some rs → cs.length = (k + parts.length) * sz →
    ∃ ys, evp L parts = some ys ∧ ys.map (·.2) = xs ∧ fillTV (fun i => some (i * sz, sz)) cs ys = some (cs.take (k * sz) ++ rs) := by
  intro parts
  induction parts with
  | nil =>
    intro k ps xs rs cs h1 h2 h3 h4
    simp only [dense, Option.some.injEq] at h1; subst h1
    simp only [evs, Option.some.injEq] at h2; subst h2
    simp only [catO, Option.some.injEq] at h3; subst h3
    exact ⟨[], rfl, rfl, by simp [fillTV]; rw [List.take_of_length_le]; simp at h4; omega⟩
  | cons p parts ih =>
    obtain ⟨i, p⟩ := p
    intro k ps xs rs cs h1 h2 h3 h4
    simp only [dense] at h1
    split at h1
    · rename_i l hb hd
      have hb := Nat.eq_of_beq_eq_true hb
      subst hb
      simp only [Option.some.injEq] at h1; subst h1
      simp only [evs] at h2
      split at h2
      · rename_i x xs' hx hxs
        simp only [Option.some.injEq] at h2; subst h2
        simp only [catO] at h3
        split at h3
        · rename_i t hb ht
          rw [appO_spec] at h3
          simp only [Option.some.injEq] at h3; subst h3
          have hb' := Nat.eq_of_beq_eq_true hb
          simp only [List.length_cons] at h4
          have e1 : (i + (parts.length + 1)) * sz = i * sz + sz + parts.length * sz := by rw [Nat.add_mul, Nat.add_mul, Nat.one_mul]; omega
          have hle : i * sz + x.cells.length ≤ cs.length := by rw [hb', h4, e1]; omega
          have hr := repl_ok cs (i * sz) x.cells hle
          have hlen : (cs.take (i * sz) ++ x.cells ++ cs.drop (i * sz + x.cells.length)).length = (i + 1 + parts.length) * sz := by
            have e2 : (i + 1 + parts.length) * sz = i * sz + sz + parts.length * sz := by rw [Nat.add_mul, Nat.add_mul, Nat.one_mul]
            simp only [List.length_append, List.length_take, List.length_drop]
            omega
          obtain ⟨ys, y1, y2, y3⟩ := ih (i + 1) l xs' t _ hd hxs ht hlen
          refine ⟨(i, x) :: ys, by simp [evp, hx, y1], by simp [y2], ?_⟩
          simp only [fillTV, hb, hr, y3]
          have e3 : (i + 1) * sz = i * sz + x.cells.length := by rw [Nat.add_mul, Nat.one_mul, hb']
          have e4 : (cs.take (i * sz) ++ x.cells).length = (i + 1) * sz := by rw [e3, List.length_append, List.length_take]; omega
          rw [← e4, List.take_left', List.append_assoc]
          simp
        · cases h3
      · cases h2
    · cases h1
theorem op_slice {ps' : String} {t e sz by_ d k : Nat} {parts : List (Nat × Operand)} {ps : List Operand} {zs xs rs : List TV} (hT : SlT P t e sz by_) (hz : Zero P e zs) (hzl : Nat.beq zs.length sz = true) (hd : dense 0 parts = some ps) (hx : evs L ps = some xs) (hr : catO sz xs = some rs) (ho : xs.all oneOrAgg = true)
    (hk : Nat.beq parts.length k = true) (hm : k * sz ≤ 4096) (hdn : Nat.blt d n = true) (h : ∀ A, A.isSome = true → next ((d, .sl A k k) :: L) (Row sz e A k k rs :: H)) :
    Op1 P ⟨some d, .buildSlice t k parts.toArray, ty, ps', af, gd⟩ n c L H next := by
  have hk := Nat.eq_of_beq_eq_true hk
  have hzl := Nat.eq_of_beq_eq_true hzl
  have hfl : ((List.range k).flatMap fun _ => zs).length = (0 + parts.length) * sz := by
    rw [hk, Nat.zero_add, ← vs_length, ← zeros_list hzl hT.pos k]; simp
  obtain ⟨ys, y1, y2, y3⟩ := dense_fill parts 0 ps xs rs _ hd hx hr hfl
  simp only [Nat.zero_mul, List.take_zero, List.nil_append] at y3
  have hl := (catO_spec xs rs hr).2
  have hxl : xs.length = k := by
    rw [← y2, List.length_map]
    clear y2 y3 hfl hr ho h
    have : ∀ (parts : List (Nat × Operand)) ys, evp L parts = some ys → ys.length = parts.length := by
      intro parts
      induction parts with
      | nil => intro ys h; simp only [evp, Option.some.injEq] at h; subst h; rfl
      | cons p parts ih =>
        obtain ⟨i, p⟩ := p
        intro ys h
        simp only [evp] at h
        split at h
        · rename_i a b h1 h2; simp only [Option.some.injEq] at h; subst h; simp [ih _ h2]
        · cases h
    rw [this _ _ y1, hk]
  refine op_buildSlice hT hz hzl y1 ?_ hm y3 ?_ hdn h
  · rw [← y2] at ho; simpa using ho
  · rw [hl, hxl]; simp
end
end Go.Hb
