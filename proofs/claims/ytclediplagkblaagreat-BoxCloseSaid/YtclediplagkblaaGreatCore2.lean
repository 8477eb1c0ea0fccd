/- A part of the proofs of this seat: rules of a logic of owned and of lent memory, what functions compute, or their walks. -/
import Derived.Test.YtclediplagkblaaGreatCore1
set_option linter.unusedVariables false
set_option linter.unusedSimpArgs false
namespace Go.Hb
open Go
def NoP (Q : Exit → Act → World → Prop) : Prop := ∀ ch a w, ¬ Q (.panic ch) a w
structure Op1 (P : Program) (o : Oper) (n : Nat) (c : Cx) (L : List (Nat × TV)) (H : List Res) (next : List (Nat × TV) → List Res → Prop) : Prop where
  go : ∀ (K : Act → World → Prop) (Q : Exit → Act → World → Prop),
    (∀ L' H', next L' H' → ∀ a w, E n L' a → S c H' w → K a w) → ∀ a w, E n L a → S c H w → o.wp P a w K Q
structure Rd (P : Program) (o : Oper) (n : Nat) (c : Cx) (L : List (Nat × TV)) (x : TV) : Prop where
  go : ∀ a, E n L a → ∀ w, inW c.o w → (execOp a.eval o).run P w = .ok (.value x.v) w
structure W (P : Program) (ops : Array Oper) (Q : Exit → Act → World → Prop) (rest : List Oper) (n : Nat) (c : Cx) (L : List (Nat × TV)) (H : List Res) : Prop where
  go : NoP Q → ∀ a w, E n L a → S c H w → wpList P ops Q rest a w
structure C (P : Program) (code : Code) (Q : Exit → Act → World → Prop) (n : Nat) (c : Cx) (L : List (Nat × TV)) (H : List Res) : Prop where
  go : NoP Q → ∀ a w, E n L a → S c H w → code.wp P Q a w
structure N (Q : Exit → Act → World → Prop) (n : Nat) (c : Cx) (L : List (Nat × TV)) (H : List Res) : Prop where
  go : NoP Q → ∀ a w, E n L a → S c H w → Q .normal a w
structure X (id : Nat) (Q : Exit → Act → World → Prop) (n : Nat) (c : Cx) (L : List (Nat × TV)) (H : List Res) : Prop where
  go : NoP Q → ∀ a w, E n L a → S c H w → Q (.exit id) a w
structure Rt (Q : Exit → Act → World → Prop) (n : Nat) (c : Cx) (L : List (Nat × TV)) (H : List Res) : Prop where
  go : NoP Q → ∀ a w, E n L a → S c H w → Q .ret a w
theorem NoP.then {K : Act → World → Prop} {Q} (h : NoP Q) : NoP (Exit.then K Q) := fun ch a w => h ch a w
theorem NoP.block {id : Nat} {Q} (h : NoP Q) : NoP (Exit.inBlock id Q) := fun ch a w => h ch a w
section
variable {P : Program} {ops : Array Oper} {Q : Exit → Act → World → Prop} {rest : List Oper} {n : Nat} {c : Cx} {L : List (Nat × TV)} {H : List Res} {o : Oper} {K : Act → World → Prop}
theorem W_op (hg : o.guard = none) (h : Op1 P o n c L H (fun L' H' => W P ops Q rest n c L' H')) : W P ops Q (o :: rest) n c L H :=
  ⟨fun hp a w he hs => wpList_plain hg fun K hK => h.go K Q (fun _ _ hn a w he hs => hK a w (hn.go hp a w he hs)) a w he hs⟩
theorem wanted_true {a : Act} {j dj : Nat} {want : Bool} (he : E n L a) (hg : o.guard = some (j, want)) (hj : ((ops[j]?).bind (·.dst)) = some dj) (hl : look L dj = some (.b want)) :
    Region.wanted o (yielded ops a.tmps) = true := by
  have := he.get dj _ hl
  simp [Region.wanted, hg, yielded, hj, this, TV.v]
theorem wanted_false {a : Act} {j dj : Nat} {want : Bool} {x : TV} (he : E n L a) (hg : o.guard = some (j, want)) (hj : ((ops[j]?).bind (·.dst)) = some dj) (hl : look L dj = some x)
    (hx : x = .b (!want) ∨ x = .un) : Region.wanted o (yielded ops a.tmps) = false := by
  have := he.get dj _ hl
  rcases hx with rfl | rfl
  · cases want <;> simp [Region.wanted, hg, yielded, hj, this, TV.v]
  · simp [Region.wanted, hg, yielded, hj, this, TV.v, undef]
theorem W_gt {j dj : Nat} {want : Bool} (hg : o.guard = some (j, want)) (hj : ((ops[j]?).bind (·.dst)) = some dj) (hl : look L dj = some (.b want))
    (h : Op1 P o n c L H (fun L' H' => W P ops Q rest n c L' H')) : W P ops Q (o :: rest) n c L H := by
  refine ⟨fun hp a w he hs => ?_⟩
  unfold wpList
  rw [if_pos (wanted_true he hg hj hl)]
  exact .inl (h.go _ Q (fun _ _ hn a w he hs => hn.go hp a w he hs) a w he hs)
theorem W_gf {j dj d : Nat} {want : Bool} {x : TV} (hg : o.guard = some (j, want)) (hj : ((ops[j]?).bind (·.dst)) = some dj) (hl : look L dj = some x)
    (hx : x = .b (!want) ∨ x = .un) (hd : o.dst = some d) (hdn : Nat.blt d n = true) (h : W P ops Q rest n c ((d, .un) :: L) H) : W P ops Q (o :: rest) n c L H := by
  refine ⟨fun hp a w he hs => ?_⟩
  unfold wpList
  rw [if_neg (by rw [wanted_false he hg hj hl hx]; simp), hd]
  exact h.go hp _ w (he.put (x := .un) (by simpa using hdn)) hs
theorem op_rd {next} {x : TV} {d : Nat} (hr : Rd P o n c L x) (hd : o.dst = some d) (hdn : Nat.blt d n = true) (h : next ((d, x) :: L) H) : Op1 P o n c L H next := by
  refine ⟨fun K Q hK a w he hs => ?_⟩
  unfold Oper.wp
  rw [hr.go a he w hs.2.1]
  show K (a.put o.dst x.v) w
  rw [hd]
  exact hK _ _ h _ w (he.put (by simpa using hdn)) hs
theorem W_rd {x : TV} {d : Nat} (hr : Rd P o n c L x) (hd : o.dst = some d) (hdn : Nat.blt d n = true) (hg : o.guard = none) (h : W P ops Q rest n c ((d, x) :: L) H) : W P ops Q (o :: rest) n c L H :=
  W_op hg (op_rd hr hd hdn h)
theorem W_env {L' : List (Nat × TV)} (h : W P ops Q rest n c L' H) (hs : ∀ i x, look L' i = some x → look L i = some x) : W P ops Q rest n c L H :=
  ⟨fun hp a w he hS => h.go hp a w (he.sub hs) hS⟩
theorem C_env {code} {L' : List (Nat × TV)} (h : C P code Q n c L' H) (hs : ∀ i x, look L' i = some x → look L i = some x) : C P code Q n c L H :=
  ⟨fun hp a w he hS => h.go hp a w (he.sub hs) hS⟩
theorem C_perm {code} {H'} (p : H.Perm H') (h : C P code Q n c L H') : C P code Q n c L H := ⟨fun hp a w he hS => h.go hp a w he (hS.perm p)⟩
theorem W_perm {H'} (p : H.Perm H') (h : W P ops Q rest n c L H') : W P ops Q rest n c L H := ⟨fun hp a w he hS => h.go hp a w he (hS.perm p)⟩
theorem N_perm {H'} (p : H.Perm H') (h : N Q n c L H') : N Q n c L H := ⟨fun hp a w he hS => h.go hp a w he (hS.perm p)⟩
theorem Rt_perm {H'} (p : H.Perm H') (h : Rt Q n c L H') : Rt Q n c L H := ⟨fun hp a w he hS => h.go hp a w he (hS.perm p)⟩
theorem C_region {id : Nat} {l : List Oper} (h : W P l.toArray Q l n c L H) : C P (.region id l.toArray false) Q n c L H :=
  ⟨fun hp a w he hs => wp_region_lit (h.go hp a w he hs)⟩
theorem C_seq {x y : Code} (h : C P x (Exit.then (y.wp P Q) Q) n c L H) : C P (.seq x y) Q n c L H :=
  ⟨fun hp a w he hs => wp_seq (h.go hp.then a w he hs)⟩
theorem C_skip (h : N Q n c L H) : C P .skip Q n c L H := ⟨fun hp a w he hs => wp_skip (h.go hp a w he hs)⟩
theorem C_exit {id : Nat} (h : X id Q n c L H) : C P (.exit id) Q n c L H := ⟨fun hp a w he hs => wp_exit (h.go hp a w he hs)⟩
theorem C_ret (h : Rt Q n c L H) : C P .ret Q n c L H := ⟨fun hp a w he hs => wp_ret (h.go hp a w he hs)⟩
theorem C_label {id : Nat} (h : N Q n c L H) : C P (.label id) Q n c L H := ⟨fun hp a w he hs => wp_label (h.go hp a w he hs)⟩
theorem C_block {id : Nat} {x : Code} (h : C P x (Exit.inBlock id Q) n c L H) : C P (.block id x) Q n c L H :=
  ⟨fun hp a w he hs => wp_block (h.go hp.block a w he hs)⟩
theorem C_cond {p : Operand} {x y : Code} {t : Bool} (hp : ev L p = some (.b t)) (ht : t = true → C P x Q n c L H) (hf : t = false → C P y Q n c L H) : C P (.cond p x y) Q n c L H :=
  ⟨fun hn a w he hs => wp_cond_split (t := t) (by rw [ev_spec he hp]; rfl) (fun h => (ht h).go hn a w he hs) (fun h => (hf h).go hn a w he hs)⟩
theorem C_cut {x : Code} (M : Act → World → Prop) (h : C P x (Exit.then M Q) n c L H) (hM : NoP Q → ∀ a w, M a w → Q .normal a w) : C P x Q n c L H :=
  ⟨fun hn a w he hs => wp_mono (h.go hn.then a w he hs) fun e a w q => by cases e <;> first | exact q | exact hM hn a w q⟩
theorem W_nil (h : N Q n c L H) : W P ops Q [] n c L H := ⟨fun hp a w he hs => wpList_nil (h.go hp a w he hs)⟩
theorem N_then {y : Code} {Q'} (h : C P y Q' n c L H) (hn : NoP Q → NoP Q' := by exact fun h => h) : N (Exit.then (y.wp P Q') Q) n c L H :=
  ⟨fun hp a w he hs => h.go (hn hp) a w he hs⟩
theorem N_block {id : Nat} (h : N Q n c L H) : N (Exit.inBlock id Q) n c L H := ⟨fun hp a w he hs => h.go hp a w he hs⟩
theorem X_then {id : Nat} (h : X id Q n c L H) : X id (Exit.then K Q) n c L H := ⟨fun hp a w he hs => h.go hp a w he hs⟩
theorem X_block {id id' : Nat} (hne : Nat.beq id id' = false) (h : X id Q n c L H) : X id (Exit.inBlock id' Q) n c L H := by
  refine ⟨fun hp a w he hs => ?_⟩
  have : id ≠ id' := fun e => by subst e; simp at hne
  simp only [Exit.inBlock, this, if_false]
  exact h.go hp a w he hs
theorem X_here {id : Nat} (h : N Q n c L H) : X id (Exit.inBlock id Q) n c L H := by
  refine ⟨fun hp a w he hs => ?_⟩
  simp only [Exit.inBlock, if_true]
  exact h.go hp a w he hs
theorem Rt_then (h : Rt Q n c L H) : Rt (Exit.then K Q) n c L H := ⟨fun hp a w he hs => h.go hp a w he hs⟩
theorem Rt_block {id : Nat} (h : Rt Q n c L H) : Rt (Exit.inBlock id Q) n c L H := ⟨fun hp a w he hs => h.go hp a w he hs⟩
def Round {γ : Type} (n : Nat) (c : Cx) (I : γ → Prop) (Lf : γ → List (Nat × TV)) (Hf : γ → List Res) (μ : γ → Nat) (k : Nat) (a : Act) (w : World) : Prop :=
  ∃ g, I g ∧ μ g < k ∧ E n (Lf g) a ∧ S c (Hf g) w
theorem C_loop {γ : Type} {x : Code} (I : γ → Prop) (Lf : γ → List (Nat × TV)) (Hf : γ → List Res) (μ : γ → Nat) (g : γ) (hI : I g) (hL : ∀ i x, look (Lf g) i = some x → look L i = some x) (hH : H.Perm (Hf g))
    (round : ∀ g, I g → C P x (Exit.then (Round n c I Lf Hf μ (μ g)) Q) n c (Lf g) (Hf g)) : C P (.loop x) Q n c L H := by
  refine ⟨fun hp a w he hs => ?_⟩
  refine wp_loop_ghost (fun k a w => ∃ g, I g ∧ μ g = k ∧ E n (Lf g) a ∧ S c (Hf g) w) (μ g) ⟨g, hI, rfl, he.sub hL, hs.perm hH⟩ ?_
  rintro k a w ⟨g, hI, rfl, he, hs⟩
  refine wp_mono ((round g hI).go hp.then a w he hs) fun e a w q => ?_
  cases e with
  | normal => obtain ⟨g', h1, h2, h3, h4⟩ := q; exact ⟨_, h2, g', h1, rfl, h3, h4⟩
  | exit id => exact q
  | goto l => exact q
  | ret => exact q
  | panic ch => exact q
  | outgrown => exact q
theorem N_round {γ : Type} {I : γ → Prop} {Lf : γ → List (Nat × TV)} {Hf : γ → List Res} {μ : γ → Nat} {k : Nat} (g : γ) (hI : I g) (hμ : μ g < k) (hL : ∀ i x, look (Lf g) i = some x → look L i = some x) (hH : H.Perm (Hf g)) :
    N (Exit.then (Round n c I Lf Hf μ k) Q) n c L H := ⟨fun _ a w he hs => ⟨g, hI, hμ, he.sub hL, hs.perm hH⟩⟩
end
def subL (L : List (Nat × TV)) : List (Nat × TV) → Prop
  | [] => True
  | (i, x) :: t => look L i = some x ∧ subL L t
theorem subL.spec {L L' : List (Nat × TV)} (h : subL L L') : ∀ i x, look L' i = some x → look L i = some x := by
  induction L' with
  | nil => intro i x hx; simp [look] at hx
  | cons p t ih =>
    obtain ⟨j, y⟩ := p
    intro i x hx
    simp only [look] at hx
    cases hji : Nat.beq j i with
    | true =>
      simp only [hji, cond_true, Option.some.injEq] at hx
      have := Nat.eq_of_beq_eq_true hji
      subst this; subst hx
      exact h.1
    | false => simp only [hji, cond_false] at hx; exact ih h.2 i x hx
structure Tr (P : Program) (f : FuncId) (args : List TV) (R : Hp → Prop) (H : List Res) (Qf : TV → List Res → Prop) : Prop where
  go : ∀ (c : Cx) (w : World), R c.o → S c H w → Calls P f (TV.vs args).toArray w (fun e w' => ∃ x H', e = .returned x.v ∧ Qf x H' ∧ S c H' w')
def Post (c : Cx) (Qf : TV → List Res → Prop) : Ending → World → Prop := fun e w' => ∃ x H', e = .returned x.v ∧ Qf x H' ∧ S c H' w'
theorem NoP.body {P fn c Qf} : NoP (bodyPost P fn (Post c Qf)) := fun _ _ _ h => by
  obtain ⟨_, x, H', h, _⟩ := h
  cases h
def initL : Nat → List TV → List (Nat × TV)
  | _, [] => []
  | k, x :: xs => (k, x) :: initL (k + 1) xs
theorem initL_look (xs : List TV) : ∀ k i x, look (initL k xs) i = some x → k ≤ i ∧ xs[i - k]? = some x := by
  induction xs with
  | nil => intro k i x h; simp [initL, look] at h
  | cons y ys ih =>
    intro k i x h
    simp only [initL, look] at h
    cases hki : Nat.beq k i with
    | true =>
      simp only [hki, cond_true, Option.some.injEq] at h
      have := Nat.eq_of_beq_eq_true hki
      subst this; subst h
      simp
    | false =>
      simp only [hki, cond_false] at h
      have h' := ih (k + 1) i x h
      refine ⟨by omega, ?_⟩
      have : i - k = (i - (k + 1)) + 1 := by omega
      rw [this]; simpa using h'.2
theorem Tr_intro {P : Program} {f : FuncId} {args : List TV} {R : Hp → Prop} {H : List Res} {Qf : TV → List Res → Prop} {fn : Func} {code : Code}
    (hf : P.funcs[f]? = some fn) (hb : fn.body = some code) (hn : Nat.ble args.length fn.ntmps = true)
    (h : ∀ c, R c.o → C P code (bodyPost P fn (Post c Qf)) fn.ntmps c (initL 0 args) H) : Tr P f args R H Qf := by
  refine ⟨fun c w hR hS => ?_⟩
  refine calls_of_wp hf hb ((h c hR).go NoP.body _ w ⟨rfl, ?_, fun i x hx => ?_⟩ hS)
  · have := Nat.le_of_ble_eq_true hn
    simp [TV.vs_map]; omega
  · obtain ⟨_, hx⟩ := initL_look args 0 i x hx
    have hi : i < args.length := (List.getElem?_eq_some_iff.1 hx).1
    simp only [Nat.sub_zero] at hx
    have hx' : args[i] = x := by simpa [hi] using hx
    simp [TV.vs_map, Array.getElem?_append, hi, hx']
theorem Rt_body1 {P : Program} {fn : Func} {c Qf n L H} {t : Tmp} {x : TV} (hr : fn.results = #[.tmp t]) (hl : look L t = some x) (H' : List Res) (hH : ∃ G, H.Perm (H' ++ G)) (hq : Qf x H') :
    Rt (bodyPost P fn (Post c Qf)) n c L H := by
  obtain ⟨G, hG⟩ := hH
  refine ⟨fun _ a w he hs => ?_⟩
  refine ⟨he.defers, x.v, ?_, x, H', rfl, hq, (hs.perm hG).keep⟩
  rw [results_tmp hr]
  have := he.get t x hl
  simp [Array.getD_eq_getD_getElem?, this]
theorem Rt_body2 {P : Program} {fn : Func} {c Qf n L H} {t u : Tmp} {x y : TV} (hr : fn.results = #[.tmp t, .tmp u]) (hl : look L t = some x) (hl' : look L u = some y) (H' : List Res) (hH : ∃ G, H.Perm (H' ++ G)) (hq : Qf (.tup [x, y]) H') :
    Rt (bodyPost P fn (Post c Qf)) n c L H := by
  obtain ⟨G, hG⟩ := hH
  refine ⟨fun _ a w he hs => ?_⟩
  refine ⟨he.defers, (TV.tup [x, y]).v, ?_, _, H', rfl, hq, (hs.perm hG).keep⟩
  rw [results_tmp2 hr]
  have h1 := he.get t x hl
  have h2 := he.get u y hl'
  simp [Array.getD_eq_getD_getElem?, h1, h2, TV.v, TV.vs]
theorem Rt_body0 {P : Program} {fn : Func} {c Qf n L H} (hr : fn.results = #[]) (H' : List Res) (hH : ∃ G, H.Perm (H' ++ G)) (hq : Qf (.tup []) H') :
    Rt (bodyPost P fn (Post c Qf)) n c L H := by
  obtain ⟨G, hG⟩ := hH
  refine ⟨fun _ a w he hs => ?_⟩
  refine ⟨he.defers, (TV.tup []).v, ?_, _, H', rfl, hq, (hs.perm hG).keep⟩
  rw [results_none hr]
  simp [TV.v, TV.vs]
theorem N_body0 {P : Program} {fn : Func} {c Qf n L H} (hr : fn.results = #[]) (H' : List Res) (hH : ∃ G, H.Perm (H' ++ G)) (hq : Qf (.tup []) H') :
    N (bodyPost P fn (Post c Qf)) n c L H := by
  obtain ⟨G, hG⟩ := hH
  refine ⟨fun _ a w he hs => ?_⟩
  refine ⟨he.defers, (TV.tup []).v, ?_, _, H', rfl, hq, (hs.perm hG).keep⟩
  rw [results_none hr]
  simp [TV.v, TV.vs]
def Sub (H : List Res) (o : Hp) : Prop := ∃ h, h.le o ∧ Star H h
theorem Sub.cons {r H o} (h : Sub (r :: H) o) : (∃ h, h.le o ∧ r h) ∧ Sub H o := by
  obtain ⟨hh, l, h1, h2, d, l1, l2, hr, hs⟩ := h
  exact ⟨⟨h1, Hp.le_trans l1 l, hr⟩, ⟨h2, Hp.le_trans l2 l, hs⟩⟩
theorem Sub.mono {H o o'} (h : Sub H o) (hl : o.le o') : Sub H o' := by
  obtain ⟨hh, l, s⟩ := h
  exact ⟨hh, Hp.le_trans l hl, s⟩
theorem op_call {P : Program} {n c L H} {next} {f : FuncId} {A : Array Operand} {ats : Array TypeId} {ty ps af gd} {d : Nat} {xs : List TV} {R Hin Qf} {Hr : List Res} {fn : Func}
    (hT : Tr P f xs R Hin Qf) (hf : P.funcs[f]? = some fn) (hnm : (fn.name == "runtime.NumGoroutine") = false) (hbd : fn.body.isNone = false)
    (hA : evs L A.toList = some xs) (hp : H.Perm (Hin ++ Hr)) (hR : ∀ o', c.o.le o' → Sub Hr o' → R o') (hdn : Nat.blt d n = true)
    (h : ∀ x H', Qf x H' → next ((d, x) :: L) (H' ++ Hr)) :
    Op1 P ⟨some d, .call { callee := .value (.func f), args := A, argTypes := ats }, ty, ps, af, gd⟩ n c L H next := by
  refine ⟨fun K Q hK a w he hs => ?_⟩
  obtain ⟨hr, shr, dj, hs', back⟩ := (hs.perm hp).lend
  have hcall := hT.go ⟨c.w0, c.o.or hr⟩ w (hR _ (Hp.le_or_left _ _) ⟨hr, Hp.le_or_right dj, shr⟩) hs'
  have hargs : A.map a.eval = (TV.vs xs).toArray := by
    rw [← evs_spec he hA, ← Array.toList_inj]; simp
  unfold Oper.wp
  have hrun : (execOp a.eval ⟨some d, .call { callee := .value (.func f), args := A, argTypes := ats }, ty, ps, af, gd⟩).run P w = .ok (.enter f (TV.vs xs).toArray) w := by
    have h1 : ¬ fn.name = "runtime.NumGoroutine" := by simpa using hnm
    have h2 : ¬ fn.body = none := by intro e; simp [e] at hbd
    simp [resolve, Deferred.ofValue, Act.eval, invoke, callFunc, hf, h1, h2, hargs, go_sem]
  rw [hrun]
  refine hcall.mono ?_
  rintro e w' ⟨x, H', rfl, hq, hs''⟩
  exact hK _ _ (h x H' hq) _ w' (he.put (by simpa using hdn)) (back _ _ hs'')
end Go.Hb
