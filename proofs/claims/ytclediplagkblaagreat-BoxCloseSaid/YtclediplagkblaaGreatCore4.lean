/- A part of the proofs of this seat: rules of a logic of owned and of lent memory, what functions compute, or their walks. -/
import Derived.Test.YtclediplagkblaaGreatCore3
set_option linter.unusedVariables false
set_option linter.unusedSimpArgs false
namespace Go.Hb
open Go
def getR : List Res → Nat → Option Res
  | [], _ => none
  | r :: _, 0 => some r
  | _ :: rs, i + 1 => getR rs i
def setR : List Res → Nat → Res → Option (List Res)
  | [], _, _ => none
  | _ :: rs, 0, r' => some (r' :: rs)
  | r :: rs, i + 1, r' => match setR rs i r' with
    | some t => some (r :: t)
    | none => none
def delR : List Res → Nat → Option (List Res)
  | [], _ => none
  | _ :: rs, 0 => some rs
  | r :: rs, i + 1 => match delR rs i with
    | some t => some (r :: t)
    | none => none
theorem getR_perm {H : List Res} : ∀ {i : Nat} {r : Res}, getR H i = some r → ∃ G, H.Perm (r :: G) ∧ ∀ r' H', setR H i r' = some H' → H'.Perm (r' :: G) := by
  induction H with
  | nil => intro i r h; simp [getR] at h
  | cons x H ih =>
    intro i r h
    cases i with
    | zero => simp only [getR, Option.some.injEq] at h; subst h; exact ⟨H, List.Perm.refl _, fun r' H' h => by simp only [setR, Option.some.injEq] at h; subst h; exact List.Perm.refl _⟩
    | succ i =>
      simp only [getR] at h
      obtain ⟨G, p, q⟩ := ih h
      refine ⟨x :: G, (p.cons x).trans (List.Perm.swap _ _ _), fun r' H' h' => ?_⟩
      simp only [setR] at h'
      split at h'
      · rename_i t ht; simp only [Option.some.injEq] at h'; subst h'; exact ((q _ _ ht).cons x).trans (List.Perm.swap _ _ _)
      · cases h'
theorem delR_perm {H : List Res} : ∀ {i : Nat} {r : Res} {H'}, getR H i = some r → delR H i = some H' → H.Perm (r :: H') := by
  induction H with
  | nil => intro i r H' h; simp [getR] at h
  | cons x H ih =>
    intro i r H' h h'
    cases i with
    | zero => simp only [getR, delR, Option.some.injEq] at h h'; subst h; subst h'; exact List.Perm.refl _
    | succ i =>
      simp only [getR] at h
      simp only [delR] at h'
      split at h'
      · rename_i t ht; simp only [Option.some.injEq] at h'; subst h'; exact ((ih h ht).cons x).trans (List.Perm.swap _ _ _)
      · cases h'
theorem S.step {c : Cx} {r r' : Res} {G : List Res} {w w' : World} (h : S c (r :: G) w)
    (f : ∀ h1, r h1 → inW h1 w → Hp.dj c.o h1 → ∃ h1', r' h1' ∧ inW h1' w' ∧ (∀ k, h1' k ≠ none → h1 k ≠ none ∨ w.heap.size ≤ k) ∧ (∀ k x, h1 k = none → w.heap[k]? = some x → w'.heap[k]? = some x)) (hm : Mt w w') : S c (r' :: G) w' := by
  obtain ⟨m, ho, hh, i, d, h1, h2, d', l1, l2, hr, hs⟩ := h
  obtain ⟨h1', hr', i1, dom, oth⟩ := f h1 hr (i.mono l1) (d.mono (Hp.le_refl _) l1)
  have lt : ∀ {h : Hp}, inW h w → ∀ k, h k ≠ none → k < w.heap.size := fun hi k hk => by
    cases e : (‹Hp› k) with
    | none => exact absurd e hk
    | some x => exact (Array.getElem?_eq_some_iff.1 (hi k x e)).1
  have djo : Hp.dj c.o h1' := fun k => by
    cases e : h1' k with
    | none => exact .inr rfl
    | some x =>
      left
      rcases dom k (by rw [e]; simp) with hk | hk
      · rcases d.mono (Hp.le_refl _) l1 k with h | h
        · exact h
        · exact absurd h hk
      · cases e' : c.o k with
        | none => rfl
        | some y => have := lt ho k (by rw [e']; simp); omega
  have dj2 : Hp.dj h1' h2 := fun k => by
    cases e : h1' k with
    | none => exact .inl rfl
    | some x =>
      right
      rcases dom k (by rw [e]; simp) with hk | hk
      · rcases d' k with h | h
        · exact absurd h hk
        · exact h
      · cases e' : h2 k with
        | none => rfl
        | some y => have := lt (i.mono l2) k (by rw [e']; simp); omega
  refine ⟨m.trans hm, fun k x hx => oth k x ?_ (ho k x hx), h1'.or h2, i1.or ?_, Hp.dj_or djo (d.mono (Hp.le_refl _) l2), h1', h2, dj2, Hp.le_or_left _ _, Hp.le_or_right dj2, hr', hs⟩
  · rcases d.mono (Hp.le_refl _) l1 k with h | h
    · rw [h] at hx; cases hx
    · exact h
  · intro k x hx
    refine oth k x ?_ (i.mono l2 k x hx)
    rcases d' k with h | h
    · exact h
    · rw [h] at hx; cases hx
theorem S.emp {c : Cx} {G : List Res} {w : World} (h : S c G w) : S c ((fun h => ∀ k, h k = none) :: G) w := by
  obtain ⟨m, ho, hh, i, d, s⟩ := h
  exact ⟨m, ho, hh, i, d, fun _ => none, hh, fun _ => .inl rfl, fun _ _ e => (by cases e), Hp.le_refl _, fun _ => rfl, s⟩
theorem S.alloc {c : Cx} {G : List Res} {w w' : World} {r' : Res} (h : S c G w) {o : Obj} (hw : w'.heap = w.heap.push o) (hos : w'.os = w.os) (ht : w'.tape = w.tape) (hou : w'.output = w.output)
    (hr : r' (fun k => if k = w.heap.size then some o else none)) : S c (r' :: G) w' := by
  refine h.emp.step (fun h1 he _ _ => ⟨_, hr, ?_, ?_, ?_⟩) ⟨hos, ht, hou, by rw [hw]; simp⟩
  · intro k x hx
    dsimp only at hx
    split at hx
    · rename_i e; cases hx; subst e; rw [hw]; simp
    · cases hx
  · intro k hk
    right
    split at hk
    · rename_i e; omega
    · exact absurd rfl hk
  · intro k x _ hx
    have := (Array.getElem?_eq_some_iff.1 hx).1
    rw [hw, Array.getElem?_push, if_neg (by omega)]
    exact hx
def Blk (g : Nat) (T : TypeId) (cells : List TV) : Res := fun h => h g = some (.cells (TV.vs cells).toArray T (0, 0))
structure Scal (P : Program) (t : TypeId) : Prop where
  ag : ∀ w, (isAgg t).run P w = .ok false w
  sz : ∀ w, (Go.sizeOf t).run P w = .ok 1 w
structure Aggr (P : Program) (t : TypeId) (k : Nat) : Prop where
  ag : ∀ w, (isAgg t).run P w = .ok true w
  sz : ∀ w, (Go.sizeOf t).run P w = .ok k w
def TV.one : TV → Bool
  | .agg _ => false | .tup _ => false | .un => false | .raw v => v.oneCell' | _ => true
theorem TV.one_v {x : TV} (h : x.one = true) : x.v.oneCell' = true := by
  cases x <;> simp [TV.one] at h <;> first | rfl | exact h
theorem cells_one {v : Value} (h : v.oneCell' = true) : v.cells = #[v] := by
  cases v <;> simp [Value.oneCell'] at h <;> rfl
theorem vs_get {l : List TV} {j : Nat} {x : TV} (h : l[j]? = some x) : (TV.vs l)[j]? = some x.v := by rw [TV.vs_map]; simp [h]
theorem vs_length (l : List TV) : (TV.vs l).length = l.length := by rw [TV.vs_map]; simp
section
variable {P : Program} {n : Nat} {c : Cx} {L : List (Nat × TV)} {H : List Res} {next : List (Nat × TV) → List Res → Prop} {ty : TypeId} {ps : String} {af : Array Edge} {gd : Option (Nat × Bool)}
theorem S.get {r w} {i : Nat} (h : S c H w) (hr : getR H i = some r) : ∃ h1, r h1 ∧ inW h1 w ∧ Hp.dj c.o h1 := by
  obtain ⟨G, p, _⟩ := getR_perm hr
  obtain ⟨m, ho, hh, i, d, h1, h2, d', l1, l2, hr, hs⟩ := h.perm p
  exact ⟨h1, hr, i.mono l1, d.mono (Hp.le_refl _) l1⟩
theorem run_load_cell {w : World} {a : Addr} {v : Value} {t : TypeId} (ht : Scal P t) (hc : w.cell? a = some v) : (Instr.loadAt t (.pointer (some a))).run P w = .ok v w := by
  simp [Instr.loadAt, Instr.sureAddr, loadVar, Sem.run_bind, ht.ag, load, Sem.run, hc]
theorem run_loadCells {w : World} {a : Addr} : ∀ (k i : Nat) (acc : Array Value) (vs : List Value), vs.length = k → (∀ j v, vs[j]? = some v → w.cell? (a.add (i + j)) = some v) → (loadCellsFrom a i k acc).run P w = .ok (acc ++ vs.toArray) w := by
  intro k
  induction k with
  | zero => intro i acc vs hl _; have : vs = [] := List.eq_nil_of_length_eq_zero hl; subst this; simp [loadCellsFrom]
  | succ k ih =>
    intro i acc vs hl hc
    cases vs with
    | nil => simp at hl
    | cons v vs =>
      have h0 := hc 0 v rfl
      simp only [Nat.add_zero] at h0
      have := ih (i + 1) (acc.push v) vs (by simpa using hl) (fun j u hu => by have := hc (j + 1) u (by simpa using hu); rw [show i + 1 + j = i + (j + 1) by omega]; exact this)
      simp [loadCellsFrom, Sem.run_bind, load, Sem.run, h0, this]
theorem run_load_agg {w : World} {a : Addr} {vs : List Value} {t : TypeId} {k : Nat} (ht : Aggr P t k) (hl : vs.length = k) (hc : ∀ j v, vs[j]? = some v → w.cell? (a.add j) = some v) : (Instr.loadAt t (.pointer (some a))).run P w = .ok (.agg vs.toArray) w := by
  have := run_loadCells (P := P) (w := w) (a := a) k 0 #[] vs hl (by simpa using hc)
  simp [Instr.loadAt, Instr.sureAddr, loadVar, Sem.run_bind, ht.ag, ht.sz, loadCells, this]
theorem cell_blk {w : World} {g T : Nat} {cells : List TV} {fr} {j : Nat} {x : TV} (h : w.heap[g]? = some (.cells (TV.vs cells).toArray T fr)) (hj : cells[j]? = some x) : w.cell? ⟨g, j, none⟩ = some x.v := by
  simp [World.cell?, h, vs_get hj]
theorem op_load {t d : Nat} {p : Operand} {g j T : Nat} {cells : List TV} {x : TV} (i : Nat) (hl : ev L p = some (.ptr g j)) (hr : getR H i = some (Blk g T cells)) (ht : Scal P t) (hc : cells[j]? = some x) (hdn : Nat.blt d n = true)
    (h : next ((d, x) :: L) H) : Op1 P ⟨some d, .load t p, ty, ps, af, gd⟩ n c L H next := by
  refine ⟨fun K Q hK a w he hs => ?_⟩
  obtain ⟨h1, hb, hi, _⟩ := hs.get hr
  have := run_load_cell (P := P) ht (cell_blk (hi g _ hb) hc)
  have hrun : (execOp a.eval ⟨some d, .load t p, ty, ps, af, gd⟩).run P w = .ok (.value x.v) w := by simp [execOp, ev_spec he hl, TV.v, Sem.run_bind, this]
  unfold Oper.wp; rw [hrun]
  exact hK _ _ h _ w (he.put (by simpa using hdn)) hs
theorem op_loads {t d : Nat} {p : Operand} {g j T : Nat} {cells xs : List TV} {k : Nat} (i : Nat) (hl : ev L p = some (.ptr g j)) (hr : getR H i = some (Blk g T cells)) (ht : Aggr P t k) (hc : (cells.drop j).take k = xs) (hk : xs.length = k) (hdn : Nat.blt d n = true)
    (h : next ((d, .agg xs) :: L) H) : Op1 P ⟨some d, .load t p, ty, ps, af, gd⟩ n c L H next := by
  refine ⟨fun K Q hK a w he hs => ?_⟩
  obtain ⟨h1, hb, hi, _⟩ := hs.get hr
  have hcell : ∀ q v, (TV.vs xs)[q]? = some v → w.cell? ((⟨g, j, none⟩ : Addr).add q) = some v := by
    intro q v hq
    rw [TV.vs_map] at hq
    obtain ⟨x, hx, rfl⟩ := by simpa using hq
    subst hc
    have hx' : cells[j + q]? = some x := by
      rw [List.getElem?_take] at hx
      split at hx
      · simpa using hx
      · cases hx
    have := cell_blk (hi g _ hb) hx'
    unfold Addr.add
    split
    · rename_i e; subst e; simpa using this
    · exact this
  have := run_load_agg (P := P) ht (by rw [vs_length]; exact hk) hcell
  have hrun : (execOp a.eval ⟨some d, .load t p, ty, ps, af, gd⟩).run P w = .ok (.value (TV.agg xs).v) w := by simp [execOp, ev_spec he hl, TV.v, Sem.run_bind, this]
  unfold Oper.wp; rw [hrun]
  exact hK _ _ h _ w (he.put (by simpa using hdn)) hs
theorem rd_load {t : Nat} {d : Option Tmp} {p : Operand} {g j T : Nat} {cells : List TV} {fr} {x : TV} (hl : ev L p = some (.ptr g j)) (hr : c.o g = some (.cells (TV.vs cells).toArray T fr)) (ht : Scal P t) (hc : cells[j]? = some x) :
    Rd P ⟨d, .load t p, ty, ps, af, gd⟩ n c L x := by
  refine ⟨fun a he w hi => ?_⟩
  have := run_load_cell (P := P) ht (cell_blk (hi g _ hr) hc)
  simp [execOp, ev_spec he hl, TV.v, Sem.run_bind, this]
theorem rd_loads {t : Nat} {d : Option Tmp} {p : Operand} {g j T : Nat} {cells xs : List TV} {fr} {k : Nat} (hl : ev L p = some (.ptr g j)) (hr : c.o g = some (.cells (TV.vs cells).toArray T fr)) (ht : Aggr P t k) (hc : (cells.drop j).take k = xs) (hk : xs.length = k) :
    Rd P ⟨d, .load t p, ty, ps, af, gd⟩ n c L (.agg xs) := by
  refine ⟨fun a he w hi => ?_⟩
  have hcell : ∀ q v, (TV.vs xs)[q]? = some v → w.cell? ((⟨g, j, none⟩ : Addr).add q) = some v := by
    intro q v hq
    rw [TV.vs_map] at hq
    obtain ⟨x, hx, rfl⟩ := by simpa using hq
    subst hc
    have hx' : cells[j + q]? = some x := by
      rw [List.getElem?_take] at hx
      split at hx
      · simpa using hx
      · cases hx
    have := cell_blk (hi g _ hr) hx'
    unfold Addr.add
    split
    · rename_i e; subst e; simpa using this
    · exact this
  have := run_load_agg (P := P) ht (by rw [vs_length]; exact hk) hcell
  simp [execOp, ev_spec he hl, TV.v, Sem.run_bind, this]
theorem okfr_zero {w : World} {g T j : Nat} {cs : Array Value} (h : w.heap[g]? = some (.cells cs T (0, 0))) : w.frozen? ⟨g, j, none⟩ = false := by
  simp [World.frozen?, h]
theorem heap_setCell_other (w : World) (a : Addr) (v : Value) {k : Nat} (h : k ≠ a.block) : (w.setCell a v).heap[k]? = w.heap[k]? := by
  simp [World.setCell, Array.getElem?_modify, Ne.symm h]
theorem heap_setCell_same {w : World} {g j T : Nat} {cs : Array Value} {fr} (h : w.heap[g]? = some (.cells cs T fr)) (v : Value) : (w.setCell ⟨g, j, none⟩ v).heap[g]? = some (.cells (cs.setIfInBounds j v) T fr) := by
  simp [World.setCell, Array.getElem?_modify, h]
theorem run_store_cell {w : World} {a : Addr} {v u : Value} (h1 : v.oneCell' = true) (hc : w.cell? a = some u) (hf : w.frozen? a = false) : (store a v).run P w = .ok () (w.setCell a v) := by
  unfold store
  cases v <;> simp [Value.oneCell'] at h1 <;> simp [Sem.run, hc, hf]
theorem run_storeAt {w : World} {a : Addr} {v u : Value} {t : TypeId} (ht : Scal P t) (h1 : v.oneCell' = true) (hc : w.cell? a = some u) (hf : w.frozen? a = false) : (Instr.storeAt t (.pointer (some a)) v).run P w = .ok () (w.setCell a v) := by
  have hadd : a.add 0 = a := by simp [Addr.add]
  simp [Instr.storeAt, Instr.sureAddr, storeVar, Sem.run_bind, ht.sz, cells_one h1, storeCells, hadd, run_store_cell h1 hc hf]
theorem vs_set (l : List TV) (j : Nat) (x : TV) : (TV.vs (l.set j x)) = (TV.vs l).set j x.v := by simp [TV.vs_map, List.map_set]
theorem op_store {t : Nat} {p q : Operand} {g j T : Nat} {cells : List TV} {x y : TV} {H'} (i : Nat) (hl : ev L p = some (.ptr g j)) (hq : ev L q = some x) (hr : getR H i = some (Blk g T cells)) (ht : Scal P t) (hx : x.one = true) (hc : cells[j]? = some y)
    (hu : setR H i (Blk g T (cells.set j x)) = some H') (h : next L H') : Op1 P ⟨none, .store t p q, ty, ps, af, gd⟩ n c L H next := by
  refine ⟨fun K Q hK a w he hs => ?_⟩
  obtain ⟨G, pm, pm'⟩ := getR_perm hr
  obtain ⟨h1, hb, hi, _⟩ := hs.get hr
  have hblk := hi g _ hb
  have := run_storeAt (P := P) ht (TV.one_v hx) (cell_blk hblk hc) (okfr_zero hblk)
  have hrun : (execOp a.eval ⟨none, .store t p q, ty, ps, af, gd⟩).run P w = .ok .skip (w.setCell ⟨g, j, none⟩ x.v) := by simp [execOp, ev_spec he hl, ev_spec he hq, TV.v, Sem.run_bind, this]
  unfold Oper.wp; rw [hrun]
  refine hK _ _ h _ _ he (S.perm ?_ (pm' _ _ hu).symm)
  refine (hs.perm pm).step (fun h1 hb hi _ => ⟨fun k => if k = g then some (.cells (TV.vs (cells.set j x)).toArray T (0, 0)) else h1 k, by simp [Blk], ?_, ?_, ?_⟩) ⟨rfl, rfl, rfl, by simp [World.setCell]⟩
  · intro k y hy
    dsimp only at hy
    split at hy
    · rename_i e; subst e; cases hy
      rw [heap_setCell_same (hi _ _ hb), vs_set]; simp
    · rename_i e; rw [heap_setCell_other _ _ _ e]; exact hi k y hy
  · intro k hk
    left
    dsimp only at hk
    split at hk
    · rename_i e; subst e; have : h1 k = _ := hb; rw [this]; simp
    · exact hk
  · intro k y hk hy
    have : k ≠ g := fun e => by subst e; have : h1 k = _ := hb; rw [this] at hk; cases hk
    rw [heap_setCell_other _ _ _ this]; exact hy
end
end Go.Hb
