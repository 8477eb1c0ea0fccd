/- A part of the proofs of this seat: rules of a logic of owned and of lent memory, what functions compute, or their walks. -/
import Derived.Test.YtclediplagkblaaGreatCore13
set_option linter.unusedVariables false
set_option linter.unusedSimpArgs false
namespace Go.Hb
open Go
section
variable {P : Program} {n : Nat} {c : Cx} {L : List (Nat × TV)} {H : List Res} {next : List (Nat × TV) → List Res → Prop} {d : Option Tmp} {ty : TypeId} {ps : String} {af : Array Edge} {gd : Option (Nat × Bool)}
theorem op_mark {t dd : Nat} {p : Operand} {A : Option Addr} {m cp e : Nat} {xs : List TV} (i : Nat) (ht : P.underlying t = some (.slice e)) (he8 : P.underlying e = some (.int .u8)) (hx : ev L p = some (.sl A m cp)) (hr : getR H i = some (Row 1 e A m cp xs)) (hA : A.isSome = true) (hdn : Nat.blt dd n = true)
    (h : next ((dd, .sl A m cp) :: L) H) : Op1 P ⟨some dd, .convert t t p, ty, ps, af, gd⟩ n c L H next := by
  refine ⟨fun K Q hK a w he hs => ?_⟩
  obtain ⟨G, pm, pm'⟩ := getR_perm hr
  obtain ⟨h1, hb, hi, _⟩ := hs.get hr
  rcases hb.alt with ⟨rfl, _⟩ | ⟨g, cur, fr, rfl, hg, hok, hn, hcp, hsz, htk⟩
  · cases hA
  have hh := hi g _ hg
  have hsh : w.shape? g = some (e, cur.size) := by unfold World.shape?; rw [hh]
  have hlt : g < w.heap.size := (Array.getElem?_eq_some_iff.1 hh).1
  have hget : w.heap[g] = .cells cur e fr := (Array.getElem?_eq_some_iff.1 hh).2
  have hrun : (execOp a.eval ⟨some dd, .convert t t p, ty, ps, af, gd⟩).run P w = .ok (.value (TV.sl (some ⟨g, 0, none⟩) m cp).v) (w.freeze ⟨g, cur.size, none⟩ 1) := by
    have key : (convert t t (.slice (some ⟨g, 0, none⟩) m cp)).run P w = .ok (.slice (some ⟨g, 0, none⟩) m cp) (w.freeze ⟨g, cur.size, none⟩ 1) := by
      simp [convert, run_underlying ht, run_underlying he8, markStringish, hsh]
    simp [execOp, ev_spec he hx, TV.v, key]
  unfold Oper.wp; rw [hrun]
  have hnew : (w.freeze ⟨g, cur.size, none⟩ 1).heap[g]? = some (.cells cur e (if (fr.1 == fr.2) = true then (cur.size, cur.size + 1) else (min fr.1 cur.size, max fr.2 (cur.size + 1)))) := by
    simp [World.freeze, Array.getElem_modify, hget, hlt]
  have hoth : ∀ k, k ≠ g → (w.freeze ⟨g, cur.size, none⟩ 1).heap[k]? = w.heap[k]? := by
    intro k hk
    simp only [World.freeze, Nat.one_ne_zero, if_false]
    rw [Array.getElem?_modify]; simp [Ne.symm hk]
  refine hK _ _ h _ _ (he.put (by simpa using hdn)) (S.perm ?_ pm.symm)
  refine (hs.perm pm).step (fun h1' hb' hi' _ => ?_) ⟨rfl, rfl, rfl, by simp [World.freeze]⟩
  rcases hb'.alt with ⟨e0, _⟩ | ⟨g', cur', fr', eA, hg', hok', hn', hcp', hsz', htk'⟩
  · cases e0
  cases eA
  have hh' := hi' _ _ hg'
  rw [hh] at hh'
  obtain ⟨rfl, rfl⟩ : cur = cur' ∧ fr = fr' := by simpa using hh'
  refine ⟨fun k => if k = g then some (.cells cur e (if (fr.1 == fr.2) = true then (cur.size, cur.size + 1) else (min fr.1 cur.size, max fr.2 (cur.size + 1)))) else h1' k, ?_, ?_, ?_, ?_⟩
  · refine ⟨hb'.len, .inr ⟨g, cur, _, rfl, if_pos rfl, ?_, hn', hcp', hsz', htk'⟩⟩
    right
    rcases hok' with rfl | hok'
    · simp
    · split
      · exact Nat.le_refl _
      · simp; omega
  · intro k y hy
    dsimp only at hy
    split at hy
    · rename_i e; subst e; cases hy; exact hnew
    · rename_i e; rw [hoth k e]; exact hi' k y hy
  · intro k hk
    left
    dsimp only at hk
    split at hk
    · rename_i e; subst e; rw [hg']; simp
    · exact hk
  · intro k y hk hy
    have : k ≠ g := fun e => by subst e; rw [hg'] at hk; cases hk
    rw [hoth k this]; exact hy
variable {Q : Exit → Act → World → Prop}
theorem C_join {x : Code} (L' : List (Nat × TV)) (H' : List Res) (h : C P x (Exit.then (fun a w => E n L' a ∧ S c H' w) Q) n c L H) (k : N Q n c L' H') : C P x Q n c L H := C_cut _ h (fun hn a w q => k.go hn a w q.1 q.2)
theorem N_joined {L' : List (Nat × TV)} {H' : List Res} (hs : subL L L') (hp : H.Perm H') : N (Exit.then (fun a w => E n L' a ∧ S c H' w) Q) n c L H :=
  ⟨fun _ a w he hS => ⟨he.sub hs.spec, hS.perm hp⟩⟩
theorem rd_isubN {t t' : TypeId} {p q : Operand} {x y : Nat} (hx : ev L p = some (.i64 (x : Int))) (hy : ev L q = some (.i64 (y : Int))) (h : y ≤ x) (hb : x ≤ 9223372036854775807) : Rd P ⟨d, .binOp .sub t p q t', ty, ps, af, gd⟩ n c L (.i64 ((x - y : Nat) : Int)) := by
  have := rd_isub (P := P) (n := n) (c := c) (d := d) (ty := ty) (ps := ps) (af := af) (gd := gd) (t := t) (t' := t') hx hy (by omega)
  rwa [show (x : Int) - (y : Int) = ((x - y : Nat) : Int) by omega] at this
theorem rd_iaddN {t t' : TypeId} {p q : Operand} {x y : Nat} (hx : ev L p = some (.i64 (x : Int))) (hy : ev L q = some (.i64 (y : Int))) (hb : x + y ≤ 9223372036854775807) : Rd P ⟨d, .binOp .add t p q t', ty, ps, af, gd⟩ n c L (.i64 ((x + y : Nat) : Int)) := by
  have := rd_iadd (P := P) (n := n) (c := c) (d := d) (ty := ty) (ps := ps) (af := af) (gd := gd) (t := t) (t' := t') hx hy (by omega)
  rwa [show (x : Int) + (y : Int) = ((x + y : Nat) : Int) by omega] at this
theorem rd_cut {t e sz : Nat} {p : Operand} {A : Option Addr} {m cp : Nat} {lo hi : Option Operand} {zl zh by_ : Nat} (hT : SlT P t e sz by_) (hx : ev L p = some (.sl A m cp))
    (hlo : bnd L lo 0 = some (zl : Int)) (hhi : bnd L hi m = some (zh : Int)) (hb : zl ≤ zh ∧ zh ≤ cp) :
    Rd P ⟨d, .slice t p lo hi none, ty, ps, af, gd⟩ n c L (.sl (cutA A zl cp sz) (zh - zl) (cp - zl)) := by
  have := rd_slice (P := P) (n := n) (c := c) (d := d) (ty := ty) (ps := ps) (af := af) (gd := gd) hT.und hT.sizeOf hx hlo hhi (by omega)
  simpa using this
theorem C_joinE {α : Type} {x : Code} (L' : α → List (Nat × TV)) (H' : α → List Res) (h : C P x (Exit.then (fun a w => ∃ y, E n (L' y) a ∧ S c (H' y) w) Q) n c L H) (k : ∀ y, N Q n c (L' y) (H' y)) : C P x Q n c L H := C_cut _ h (fun hn a w ⟨y, q⟩ => (k y).go hn a w q.1 q.2)
theorem N_joinedE {α : Type} {L' : α → List (Nat × TV)} {H' : α → List Res} (y : α) (hs : subL L (L' y)) (hp : H.Perm (H' y)) : N (Exit.then (fun a w => ∃ y, E n (L' y) a ∧ S c (H' y) w) Q) n c L H :=
  ⟨fun _ a w he hS => ⟨y, he.sub hs.spec, hS.perm hp⟩⟩
theorem rd_sl_nil {t t' e : TypeId} {p q : Operand} {A : Option Addr} {m cp m' cp' : Nat} (ht : P.underlying t = some (.slice e)) (hx : ev L p = some (.sl A m cp)) (hy : ev L q = some (.sl none m' cp')) : Rd P ⟨d, .binOp .eql t p q t', ty, ps, af, gd⟩ n c L (.b A.isNone) := by
  refine ⟨fun a he w _ => ?_⟩
  have e2 : (Op.equal t (.slice A m cp) (.slice none m' cp')).run P w = .ok A.isNone w := by
    obtain ⟨dd, hd⟩ := maxDepth_succ
    unfold Op.equal
    rw [hd]
    cases A <;> (simp only [Op.equalIn, Sem.run_bind, run_und ht, Result.andThen_ok]; rfl)
  have e1 : (eqGuard .eql t p q (.slice A m cp) (.slice none m' cp')).run P w = .ok () w := by unfold eqGuard; simp
  have e3 : (binOp .eql t (.slice A m cp) (.slice none m' cp')).run P w = .ok (.bool A.isNone) w := by
    show ((do let r ← Op.equal t (.slice A m cp) (.slice none m' cp'); pure (Value.bool r) : Sem Value)).run P w = _
    simp [e2]
  simp [execOp, ev_spec he hx, ev_spec he hy, TV.v, e1, e3]
end
end Go.Hb
