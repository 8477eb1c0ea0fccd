/- A part of the proofs of this seat: rules of a logic of owned and of lent memory, what functions compute, or their walks. -/
import Derived.Test.YtclediplagkblaaGreatCore11
set_option linter.unusedVariables false
set_option linter.unusedSimpArgs false
namespace Go.Hb
open Go
theorem Zero.ofK {P : Program} {t : TypeId} {zs : List TV} (h : ((P.info? t).bind (fun i => i.zero)).map (fun v => v.cells.toList) = some (TV.vs zs)) : Zero P t zs := by
  refine ⟨fun w => ?_⟩
  obtain ⟨v, hv, e⟩ := Option.map_eq_some_iff.1 h
  obtain ⟨i, hi, hz⟩ := Option.bind_eq_some_iff.1 hv
  exact ⟨v, by simp [zeroValue, typeInfo, program, Sem.run, hi, hz, go_sem], by rw [← Array.toList_inj, e]⟩
theorem Lay.ofK {P : Program} {t : TypeId} {zs : List TV} {fs : List (Nat × Nat)} (hz : Zero P t zs) (h : (match P.underlying t with
    | some (.struct F) => some (F.toList.map fun f => (f.offset, (P.info? f.type).map (fun i => i.size)))
    | _ => none) = some (fs.map fun p => (p.1, some p.2))) : Lay P t zs fs := by
  refine ⟨hz, ?_⟩
  split at h
  · rename_i F hF
    simp only [Option.some.injEq] at h
    refine ⟨F, hF, fun w => ?_⟩
    have key : ∀ (l : List Field) (fs : List (Nat × Nat)), (l.map fun f => (f.offset, (P.info? f.type).map (fun i => i.size))) = fs.map (fun p => (p.1, some p.2)) →
        (l.mapM (fun f : Field => (do let s ← Go.sizeOf f.type; pure (f.offset, s) : Sem (Nat × Nat)))).run P w = .ok fs w := by
      intro l
      induction l with
      | nil => intro fs h; cases fs with
        | nil => simp
        | cons p fs => simp at h
      | cons f l ih =>
        intro fs h
        cases fs with
        | nil => simp at h
        | cons p fs =>
          obtain ⟨o, sz⟩ := p
          simp only [List.map_cons, List.cons.injEq, Prod.mk.injEq] at h
          obtain ⟨⟨rfl, h2⟩, h3⟩ := h
          obtain ⟨i, hi, hs⟩ := Option.map_eq_some_iff.1 h2
          have := ih fs h3
          have hso : (Go.sizeOf f.type).run P w = .ok sz w := by simp [Go.sizeOf, typeInfo, program, Sem.run, hi, hs, go_sem]
          rw [List.mapM_cons]
          simp only [Sem.run_bind, Sem.run_pure, hso, Result.andThen_ok, this]
    have := key F.toList fs h
    simp only [bind_pure_comp] at this
    rw [Array.mapM_eq_mapM_toList]
    simp [this]
  · cases h
structure ALay (P : Program) (t : TypeId) (zs : List TV) (sz : Nat) : Prop where
  zero : Zero P t zs
  arr : ∃ len e, P.underlying t = some (.array len e) ∧ ∀ w, (Go.sizeOf e).run P w = .ok sz w
section
variable {P : Program} {n : Nat} {c : Cx} {L : List (Nat × TV)} {H : List Res} {next : List (Nat × TV) → List Res → Prop} {d : Option Tmp} {ty : TypeId} {ps : String} {af : Array Edge} {gd : Option (Nat × Bool)}
variable {Q : Exit → Act → World → Prop} {ops : Array Oper} {rest : List Oper} {k : Option Nat} {fuel : Nat} {l : Array Bool}
theorem rd_abuild {t sz : Nat} {parts : List (Nat × Operand)} {zs : List TV} {xs : List (Nat × TV)} {rs : List TV} (hl : ALay P t zs sz) (hx : evp L parts = some xs) (ho : xs.all (fun p => oneOrAgg p.2) = true) (hr : fillTV (fun i => some (i * sz, sz)) zs xs = some rs) :
    Rd P ⟨d, .build t parts.toArray, ty, ps, af, gd⟩ n c L (.agg rs) := by
  refine ⟨fun a he w _ => ?_⟩
  obtain ⟨v, hv, hvc⟩ := hl.zero.run w
  obtain ⟨len, e, hF, hsz⟩ := hl.arr
  have hfill := fill_spec xs zs rs (fun p hp => oneOrAgg_spec (by simp at ho; exact ho p.1 p.2 hp)) hr
  have hparts : parts.map (fun p => (p.1, a.eval p.2)) = xs.map fun p => (p.1, p.2.v) := evp_spec he hx
  have hu := run_und (w := w) hF
  have hfill' : Instr.fill (fun i => some (i * sz, sz)) v.cells (parts.map (fun p => (p.1, a.eval p.2))) = some (TV.vs rs).toArray := by
    rw [hparts, hvc]; simpa using hfill
  have e0 : Array.map (fun x => match x with | (i, x) => (i, a.eval x)) parts.toArray = (parts.map (fun p => (p.1, a.eval p.2))).toArray := by simp
  simp only [execOp, Instr.build, Sem.run_bind, hv, Result.andThen_ok, hu, hsz, e0]
  rw [hfill']
  rfl
theorem D_split {dd : Nat} {t : Bool} (hl : look L dd = some (.b t)) (ht : t = true → D P ops Q k fuel l n c ((dd, .b true) :: L) H) (hf : t = false → D P ops Q k fuel l n c ((dd, .b false) :: L) H) : D P ops Q k fuel l n c L H := by
  have key : ∀ b, t = b → D P ops Q k fuel l n c ((dd, .b b) :: L) H → D P ops Q k fuel l n c L H := by
    intro b hb h
    subst hb
    refine ⟨fun hp hd a w he hs => h.go hp hd a w (he.sub fun i x hx => ?_) hs⟩
    simp only [look] at hx
    cases hdi : Nat.beq dd i with
    | true =>
      simp only [hdi, cond_true, Option.some.injEq] at hx
      have := Nat.eq_of_beq_eq_true hdi
      subst this; subst hx; exact hl
    | false => simpa [hdi] using hx
  cases t
  · exact key false rfl (hf rfl)
  · exact key true rfl (ht rfl)
theorem rd_beq {t t' : TypeId} {p q : Operand} {x y : Bool} (ht : P.underlying t = some .bool) (hx : ev L p = some (.b x)) (hy : ev L q = some (.b y)) : Rd P ⟨d, .binOp .eql t p q t', ty, ps, af, gd⟩ n c L (.b (x == y)) := by
  refine ⟨fun a he w _ => ?_⟩
  have e2 : (Op.equal t (.bool x) (.bool y)).run P w = .ok (x == y) w := by
    obtain ⟨dd, hd⟩ := maxDepth_succ
    unfold Op.equal
    rw [hd]
    simp only [Op.equalIn, Sem.run_bind, run_und ht, Result.andThen_ok]
    rfl
  have e1 : (eqGuard .eql t p q (.bool x) (.bool y)).run P w = .ok () w := by unfold eqGuard; simp
  have e3 : (binOp .eql t (.bool x) (.bool y)).run P w = .ok (.bool (x == y)) w := by
    show ((do let r ← Op.equal t (.bool x) (.bool y); pure (Value.bool r) : Sem Value)).run P w = _
    simp [e2]
  simp [execOp, ev_spec he hx, ev_spec he hy, TV.v, e1, e3]
theorem rd_bne {t t' : TypeId} {p q : Operand} {x y : Bool} (ht : P.underlying t = some .bool) (hx : ev L p = some (.b x)) (hy : ev L q = some (.b y)) : Rd P ⟨d, .binOp .neq t p q t', ty, ps, af, gd⟩ n c L (.b (!(x == y))) := by
  refine ⟨fun a he w _ => ?_⟩
  have e2 : (Op.equal t (.bool x) (.bool y)).run P w = .ok (x == y) w := by
    obtain ⟨dd, hd⟩ := maxDepth_succ
    unfold Op.equal
    rw [hd]
    simp only [Op.equalIn, Sem.run_bind, run_und ht, Result.andThen_ok]
    rfl
  have e1 : (eqGuard .neq t p q (.bool x) (.bool y)).run P w = .ok () w := by unfold eqGuard; simp
  have e3 : (binOp .neq t (.bool x) (.bool y)).run P w = .ok (.bool (!(x == y))) w := by
    show ((do let r ← Op.equal t (.bool x) (.bool y); pure (Value.bool !r) : Sem Value)).run P w = _
    simp [e2]
  simp [execOp, ev_spec he hx, ev_spec he hy, TV.v, e1, e3]
theorem End0 {fn : Func} {c Qf n L H} (is : List Nat) {A B G : List Res} (hr : fn.results = #[]) (hp : pickR H is = some (A, G)) (e : A = B) (hq : Qf (.tup []) B) : N (bodyPost P fn (Post c Qf)) n c L H := N_body0 hr B (pickR_ex hp e) hq
theorem Ret0 {fn : Func} {c Qf n L H} (is : List Nat) {A B G : List Res} (hr : fn.results = #[]) (hp : pickR H is = some (A, G)) (e : A = B) (hq : Qf (.tup []) B) : Rt (bodyPost P fn (Post c Qf)) n c L H := Rt_body0 hr B (pickR_ex hp e) hq
theorem Ret1 {fn : Func} {c Qf n L H} (is : List Nat) {t : Tmp} {x : TV} {A B G : List Res} (hr : fn.results = #[.tmp t]) (hl : look L t = some x) (hp : pickR H is = some (A, G)) (e : A = B) (hq : Qf x B) : Rt (bodyPost P fn (Post c Qf)) n c L H := Rt_body1 hr hl B (pickR_ex hp e) hq
theorem Ret2 {fn : Func} {c Qf n L H} (is : List Nat) {t u : Tmp} {x y : TV} {A B G : List Res} (hr : fn.results = #[.tmp t, .tmp u]) (hl : look L t = some x) (hl' : look L u = some y) (hp : pickR H is = some (A, G)) (e : A = B) (hq : Qf (.tup [x, y]) B) : Rt (bodyPost P fn (Post c Qf)) n c L H := Rt_body2 hr hl hl' B (pickR_ex hp e) hq
theorem RetC {fn : Func} {c Qf n L H} (is : List Nat) {p t k : Nat} {g j T : Nat} {cells xs : List TV} {A B G : List Res} (i : Nat) (hres : fn.results = #[.cell p t]) (hl : look L p = some (.ptr g j)) (hr : getR H i = some (Blk g T cells)) (ht : Aggr P t k) (hc : (cells.drop j).take k = xs) (hk : xs.length = k)
    (hp : pickR H is = some (A, G)) (e : A = B) (hq : Qf (.agg xs) B) : Rt (bodyPost P fn (Post c Qf)) n c L H := Rt_cell i hres hl hr ht hc hk B (pickR_ex hp e) hq
theorem RetC2 {fn : Func} {c Qf n L H} (is : List Nat) {p t k u : Nat} {g j T : Nat} {cells xs : List TV} {y : TV} {A B G : List Res} (i : Nat) (hres : fn.results = #[.cell p t, .tmp u]) (hl : look L p = some (.ptr g j)) (hr : getR H i = some (Blk g T cells)) (ht : Aggr P t k) (hc : (cells.drop j).take k = xs) (hk : xs.length = k) (hu : look L u = some y)
    (hp : pickR H is = some (A, G)) (e : A = B) (hq : Qf (.tup [.agg xs, y]) B) : Rt (bodyPost P fn (Post c Qf)) n c L H := Rt_cell_tmp i hres hl hr ht hc hk hu B (pickR_ex hp e) hq
theorem W_pick (is : List Nat) {A G : List Res} (hp : pickR H is = some (A, G)) (h : W P ops Q rest n c L A) : W P ops Q rest n c L H :=
  ⟨fun hn a w he hs => h.go hn a w he ((hs.perm (pickR_spec hp)).keep)⟩
theorem C_pick {code} (is : List Nat) {A G : List Res} (hp : pickR H is = some (A, G)) (h : C P code Q n c L A) : C P code Q n c L H :=
  ⟨fun hn a w he hs => h.go hn a w he ((hs.perm (pickR_spec hp)).keep)⟩
theorem N_pick (is : List Nat) {A G : List Res} (hp : pickR H is = some (A, G)) (h : N Q n c L A) : N Q n c L H :=
  ⟨fun hn a w he hs => h.go hn a w he ((hs.perm (pickR_spec hp)).keep)⟩
theorem X_pick {id : Nat} (is : List Nat) {A G : List Res} (hp : pickR H is = some (A, G)) (h : X id Q n c L A) : X id Q n c L H :=
  ⟨fun hn a w he hs => h.go hn a w he ((hs.perm (pickR_spec hp)).keep)⟩
theorem N_env {L' : List (Nat × TV)} (h : N Q n c L' H) (hs : subL L L') : N Q n c L H := ⟨fun hp a w he hS => h.go hp a w (he.sub hs.spec) hS⟩
theorem C_envs {code} {L' : List (Nat × TV)} (hs : subL L L') (h : C P code Q n c L' H) : C P code Q n c L H := C_env h hs.spec
theorem C_eqH {code} {H'} (e : H = H') (h : C P code Q n c L H') : C P code Q n c L H := e ▸ h
theorem W_eqH {H'} (e : H = H') (h : W P ops Q rest n c L H') : W P ops Q rest n c L H := e ▸ h
theorem N_eqH {H'} (e : H = H') (h : N Q n c L H') : N Q n c L H := e ▸ h
end
end Go.Hb
