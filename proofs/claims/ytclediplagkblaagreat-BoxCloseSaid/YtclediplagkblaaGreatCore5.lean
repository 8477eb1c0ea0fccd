/- A part of the proofs of this seat: rules of a logic of owned and of lent memory, what functions compute, or their walks. -/
import Derived.Test.YtclediplagkblaaGreatCore4
set_option linter.unusedVariables false
set_option linter.unusedSimpArgs false
namespace Go.Hb
open Go
section
variable {P : Program} {n : Nat} {c : Cx} {L : List (Nat × TV)} {H : List Res} {next : List (Nat × TV) → List Res → Prop} {d : Option Tmp} {ty : TypeId} {ps : String} {af : Array Edge} {gd : Option (Nat × Bool)}
structure Zero (P : Program) (t : TypeId) (zs : List TV) : Prop where
  run : ∀ w, ∃ v, (zeroValue t).run P w = .ok v w ∧ v.cells = (TV.vs zs).toArray
theorem op_alloc {t d : Nat} {zs : List TV} (hz : Zero P t zs) (hdn : Nat.blt d n = true) (h : ∀ g, next ((d, .ptr g 0) :: L) (Blk g t zs :: H)) :
    Op1 P ⟨some d, .alloc t, ty, ps, af, gd⟩ n c L H next := by
  refine ⟨fun K Q hK a w he hs => ?_⟩
  obtain ⟨v, hv, hc⟩ := hz.run w
  have hrun : (execOp a.eval ⟨some d, .alloc t, ty, ps, af, gd⟩).run P w = .ok (.value (TV.ptr w.heap.size 0).v) (w.alloc (.cells (TV.vs zs).toArray t)) := by
    have e : (newObj (.cells (TV.vs zs).toArray t)).run P w = .ok w.heap.size (w.alloc (.cells (TV.vs zs).toArray t)) := rfl
    simp [execOp, Instr.alloc, hv, newVar, newRow, hc, TV.v, e]
  unfold Oper.wp; rw [hrun]
  exact hK _ _ (h w.heap.size) _ _ (he.put (by simpa using hdn)) (hs.alloc (w' := w.alloc (.cells (TV.vs zs).toArray t)) rfl rfl rfl rfl (by simp [Blk]))
def TV.cells : TV → List TV
  | .agg l => l
  | x => [x]
theorem TV.cells_v (x : TV) (h : x.one = true ∨ ∃ l, x = .agg l) : x.v.cells = (TV.vs x.cells).toArray := by
  rcases h with h | ⟨l, rfl⟩
  · cases x <;> simp [TV.one] at h <;> first | rfl | (simp only [TV.cells, TV.vs]; exact cells_one h)
  · rfl
theorem op_box {t d : Nat} {p : Operand} {x : TV} (hx : ev L p = some x) (ho : x.one = true ∨ ∃ l, x = .agg l) (hdn : Nat.blt d n = true) (h : ∀ g, next ((d, .ptr g 0) :: L) (Blk g t x.cells :: H)) :
    Op1 P ⟨some d, .box t p, ty, ps, af, gd⟩ n c L H next := by
  refine ⟨fun K Q hK a w he hs => ?_⟩
  have hrun : (execOp a.eval ⟨some d, .box t p, ty, ps, af, gd⟩).run P w = .ok (.value (TV.ptr w.heap.size 0).v) (w.alloc (.cells (TV.vs x.cells).toArray t)) := by
    have e : (newObj (.cells (TV.vs x.cells).toArray t)).run P w = .ok w.heap.size (w.alloc (.cells (TV.vs x.cells).toArray t)) := rfl
    simp [execOp, ev_spec he hx, Instr.box, newVar, newRow, TV.cells_v x ho, TV.v, e]
  unfold Oper.wp; rw [hrun]
  exact hK _ _ (h w.heap.size) _ _ (he.put (by simpa using hdn)) (hs.alloc (w' := w.alloc (.cells (TV.vs x.cells).toArray t)) rfl rfl rfl rfl (by simp [Blk]))
def FA (P : Program) (s f off : Nat) : Prop := ∀ a w, (Instr.fieldAt s (.pointer (some a)) f).run P w = .ok (.pointer (some (a.add off))) w
theorem add_plain (g j k : Nat) : (⟨g, j, none⟩ : Addr).add k = ⟨g, j + k, none⟩ := by unfold Addr.add; split <;> simp_all
theorem add_add (a : Addr) (h : a.spot = none) (j k : Nat) : (a.add j).add k = a.add (j + k) := by
  obtain ⟨g, o, s⟩ := a
  simp only at h; subst h
  simp [add_plain, Nat.add_assoc]
theorem rd_fieldAddr {s f off : Nat} {p : Operand} {g j : Nat} (hf : FA P s f off) (hl : ev L p = some (.ptr g j)) : Rd P ⟨d, .fieldAddr s p f, ty, ps, af, gd⟩ n c L (.ptr g (j + off)) := by
  refine ⟨fun a he w _ => ?_⟩
  simp [execOp, ev_spec he hl, TV.v, hf ⟨g, j, none⟩ w, add_plain]
def FD (P : Program) (t f off : Nat) (k : Option Nat) : Prop := ∀ cs w, (Instr.field t (.agg cs) f).run P w = (match k with
  | none => (match cs[off]? with | some v => Result.ok v w | none => Result.halt (.stuck "part: no such cell") w)
  | some k => Result.ok (.agg (cs.extract off (off + k))) w)
theorem rd_field {t f off : Nat} {p : Operand} {l : List TV} {x : TV} (hf : FD P t f off none) (hl : ev L p = some (.agg l)) (hx : l[off]? = some x) : Rd P ⟨d, .field t p f, ty, ps, af, gd⟩ n c L x := by
  refine ⟨fun a he w _ => ?_⟩
  have := hf (TV.vs l).toArray w
  simp [vs_get hx] at this
  simp [execOp, ev_spec he hl, TV.v, Sem.run_bind, this]
theorem rd_fields {t f off k : Nat} {p : Operand} {l xs : List TV} (hf : FD P t f off (some k)) (hl : ev L p = some (.agg l)) (hx : (l.drop off).take k = xs) : Rd P ⟨d, .field t p f, ty, ps, af, gd⟩ n c L (.agg xs) := by
  refine ⟨fun a he w _ => ?_⟩
  have := hf (TV.vs l).toArray w
  have e : (TV.vs l).toArray.extract off (off + k) = (TV.vs xs).toArray := by
    subst hx
    rw [← Array.toList_inj]
    simp [TV.vs_map, List.extract_eq_take_drop]
  simp only [e] at this
  simp [execOp, ev_spec he hl, TV.v, Sem.run_bind, this]
theorem rd_extract {p : Operand} {l : List TV} {i : Nat} {x : TV} (hl : ev L p = some (.tup l)) (hx : l[i]? = some x) : Rd P ⟨d, .extract p i, ty, ps, af, gd⟩ n c L x := by
  refine ⟨fun a he w _ => ?_⟩
  simp [execOp, ev_spec he hl, TV.v, Instr.extract, vs_get hx]
def repl : List TV → Nat → List TV → Option (List TV)
  | cs, 0, [] => some cs
  | _ :: cs, 0, x :: xs => match repl cs 0 xs with
    | some t => some (x :: t)
    | none => none
  | c :: cs, k + 1, xs => match repl cs k xs with
    | some t => some (c :: t)
    | none => none
  | [], 0, _ :: _ => none
  | [], _ + 1, _ => none
theorem repl_spec : ∀ (cs : List TV) (k : Nat) (xs rs : List TV), repl cs k xs = some rs → k + xs.length ≤ cs.length ∧ rs = cs.take k ++ xs ++ cs.drop (k + xs.length) := by
  intro cs
  induction cs with
  | nil =>
    intro k xs rs h
    cases k with
    | zero =>
      cases xs with
      | nil => simp only [repl, Option.some.injEq] at h; subst h; simp
      | cons x xs => simp [repl] at h
    | succ k => simp [repl] at h
  | cons c cs ih =>
    intro k xs rs h
    cases k with
    | zero =>
      cases xs with
      | nil => simp only [repl, Option.some.injEq] at h; subst h; simp
      | cons x xs =>
        simp only [repl] at h
        split at h
        · rename_i t ht; simp only [Option.some.injEq] at h; subst h
          obtain ⟨h1, h2⟩ := ih 0 xs t ht
          subst h2
          refine ⟨by simp only [List.length_cons]; omega, ?_⟩
          simp
        · cases h
    | succ k =>
      simp only [repl] at h
      split at h
      · rename_i t ht; simp only [Option.some.injEq] at h; subst h
        obtain ⟨h1, h2⟩ := ih k xs t ht
        subst h2
        refine ⟨by simp only [List.length_cons]; omega, ?_⟩
        rw [show k + 1 + xs.length = (k + xs.length) + 1 by omega]
        simp
      · cases h
def fillTV (pl : Nat → Option (Nat × Nat)) : List TV → List (Nat × TV) → Option (List TV)
  | cs, [] => some cs
  | cs, (i, x) :: rest => match pl i with
    | none => none
    | some (off, size) => match Nat.beq x.cells.length size, repl cs off x.cells with
      | true, some t => fillTV pl t rest
      | _, _ => none
structure Lay (P : Program) (t : TypeId) (zs : List TV) (fs : List (Nat × Nat)) : Prop where
  zero : Zero P t zs
  str : (∃ F, P.underlying t = some (.struct F) ∧ ∀ w, (F.mapM (fun f : Field => (do let s ← Go.sizeOf f.type; pure (f.offset, s) : Sem (Nat × Nat)))).run P w = .ok fs.toArray w)
theorem foldl_set (xs : List Value) : ∀ (cs : Array Value) (off k : Nat), off + k + xs.length ≤ cs.size →
    ((xs.zipIdx k).foldl (fun cs (p : Value × Nat) => cs.setIfInBounds (off + p.2) p.1) cs).toList = cs.toList.take (off + k) ++ xs ++ cs.toList.drop (off + k + xs.length) := by
  induction xs with
  | nil => intro cs off k h; simp
  | cons x xs ih =>
    intro cs off k h
    simp only [List.length_cons] at h
    simp only [List.zipIdx_cons, List.foldl_cons]
    rw [ih _ off (k + 1) (by simp; omega)]
    simp only [Array.toList_setIfInBounds]
    have hlt : off + k < cs.toList.length := by simp; omega
    rw [List.set_eq_take_append_cons_drop, if_pos hlt]
    have e1 : off + (k + 1) = (off + k) + 1 := by omega
    have h1 : (cs.toList.take (off + k)).length = off + k := by rw [List.length_take]; omega
    rw [e1, show off + k + 1 + xs.length = (off + k) + (1 + xs.length) by omega, List.take_append, List.drop_append, h1]
    simp only [show off + k + 1 - (off + k) = 1 by omega, show off + k + (1 + xs.length) - (off + k) = xs.length + 1 by omega, List.take_succ_cons, List.take_zero, List.drop_succ_cons, List.drop_drop]
    rw [List.take_of_length_le (by omega), List.drop_of_length_le (by omega)]
    simp [List.length_cons, show off + k + (xs.length + 1) = off + k + 1 + xs.length by omega]
theorem fill_spec {pl : Nat → Option (Nat × Nat)} : ∀ (parts : List (Nat × TV)) (cs rs : List TV), (∀ p ∈ parts, p.2.one = true ∨ ∃ l, p.2 = .agg l) → fillTV pl cs parts = some rs →
    Instr.fill pl (TV.vs cs).toArray (parts.map fun p => (p.1, p.2.v)) = some (TV.vs rs).toArray := by
  intro parts
  induction parts with
  | nil => intro cs rs _ h; simp only [fillTV, Option.some.injEq] at h; subst h; rfl
  | cons p parts ih =>
    obtain ⟨i, x⟩ := p
    intro cs rs hone h
    simp only [fillTV] at h
    split at h
    · cases h
    · rename_i off size hpl
      split at h
      · rename_i t hb1 hrp
        have hb1 := Nat.eq_of_beq_eq_true hb1
        obtain ⟨hb2, ht⟩ := repl_spec _ _ _ _ hrp
        have hxc := TV.cells_v x (hone (i, x) List.mem_cons_self)
        have hlen : x.v.cells.size = size := by rw [hxc]; simp [vs_length, hb1]
        have := ih _ rs (fun p hp => hone p (List.mem_cons_of_mem _ hp)) h
        simp only [List.map_cons, Instr.fill, hpl, hlen]
        rw [if_neg (by simp [vs_length]; omega)]
        rw [← this]
        congr 1
        rw [← Array.toList_inj, hxc]
        have := foldl_set (TV.vs x.cells) (TV.vs cs).toArray off 0 (by simp [vs_length]; omega)
        simp only [Nat.add_zero] at this
        rw [← Array.foldl_toList]
        simp only [Array.toList_zipIdx] at this ⊢
        rw [this, ht]
        simp [TV.vs_map]
      · cases h
def evp (L : List (Nat × TV)) : List (Nat × Operand) → Option (List (Nat × TV))
  | [] => some []
  | (i, p) :: ps => match ev L p, evp L ps with
    | some x, some xs => some ((i, x) :: xs)
    | _, _ => none
theorem evp_spec {a : Act} (h : E n L a) : ∀ {ps : List (Nat × Operand)} {xs : List (Nat × TV)}, evp L ps = some xs → ps.map (fun p => (p.1, a.eval p.2)) = xs.map fun p => (p.1, p.2.v) := by
  intro ps
  induction ps with
  | nil => intro xs hx; simp [evp] at hx; subst hx; rfl
  | cons p ps ih =>
    obtain ⟨i, p⟩ := p
    intro xs hx
    simp only [evp] at hx
    split at hx
    · rename_i x ys h1 h2
      simp at hx; subst hx
      simp [ev_spec h h1, ih h2]
    · simp at hx
def oneOrAgg : TV → Bool
  | .agg _ => true
  | x => x.one
theorem oneOrAgg_spec {x : TV} (h : oneOrAgg x = true) : x.one = true ∨ ∃ l, x = .agg l := by
  cases x <;> first | exact .inr ⟨_, rfl⟩ | exact .inl h
theorem rd_build {t : TypeId} {parts : List (Nat × Operand)} {zs : List TV} {fs : List (Nat × Nat)} {xs : List (Nat × TV)} {rs : List TV} (hl : Lay P t zs fs) (hx : evp L parts = some xs) (ho : xs.all (fun p => oneOrAgg p.2) = true) (hr : fillTV (fun i => fs[i]?) zs xs = some rs) :
    Rd P ⟨d, .build t parts.toArray, ty, ps, af, gd⟩ n c L (.agg rs) := by
  refine ⟨fun a he w _ => ?_⟩
  obtain ⟨v, hv, hvc⟩ := hl.zero.run w
  obtain ⟨F, hF, hFr⟩ := hl.str
  have hfill := fill_spec xs zs rs (fun p hp => oneOrAgg_spec (by simp at ho; exact ho p.1 p.2 hp)) hr
  have hparts : parts.map (fun p => (p.1, a.eval p.2)) = xs.map fun p => (p.1, p.2.v) := evp_spec he hx
  have hu : (underlying t).run P w = .ok (.struct F) w := by simp [underlying, program, Sem.run, hF, go_sem]
  have hfill' : Instr.fill (fun x => (fs.toArray)[x]?) v.cells (parts.map (fun p => (p.1, a.eval p.2))) = some (TV.vs rs).toArray := by
    rw [hparts, hvc]; simpa using hfill
  have hFr' := hFr w
  simp only [execOp, Instr.build, Sem.run_bind, hv, Result.andThen_ok, hu]
  have e : Array.map (fun x => match x with | (i, x) => (i, a.eval x)) parts.toArray = (parts.map (fun p => (p.1, a.eval p.2))).toArray := by simp
  rw [hFr']
  simp only [Result.andThen_ok, e]
  rw [hfill']
  rfl
end
end Go.Hb
