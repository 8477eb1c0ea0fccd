/- A part of the proofs of this seat: rules of a logic of owned and of lent memory, what functions compute, or their walks. -/
import Derived.Test.YtclediplagkblaaGreatCore7
import Derived.WalkLawsBesides
set_option linter.unusedVariables false
set_option linter.unusedSimpArgs false
namespace Go.Hb
open Go
section
variable {P : Program} {n : Nat} {c : Cx} {L : List (Nat × TV)} {H : List Res} {next : List (Nat × TV) → List Res → Prop} {d : Option Tmp} {ty : TypeId} {ps : String} {af : Array Edge} {gd : Option (Nat × Bool)}
variable {Q : Exit → Act → World → Prop} {ops : Array Oper} {rest : List Oper}
theorem run_und {t : TypeId} {D : TypeDesc} {w : World} (h : P.underlying t = some D) : (underlying t).run P w = .ok D w := by simp [underlying, program, Sem.run, h, go_sem]
def setT : List TV → Nat → TV → Option (List TV)
  | [], _, _ => none
  | _ :: cs, 0, x => some (x :: cs)
  | y :: cs, k + 1, x => match setT cs k x with
    | some t => some (y :: t)
    | none => none
theorem setT_spec : ∀ {cs : List TV} {k : Nat} {x : TV} {rs : List TV}, setT cs k x = some rs → rs = cs.set k x ∧ ∃ y, cs[k]? = some y := by
  intro cs
  induction cs with
  | nil => intro k x rs h; simp [setT] at h
  | cons y cs ih =>
    intro k x rs h
    cases k with
    | zero => simp only [setT, Option.some.injEq] at h; subst h; exact ⟨rfl, y, rfl⟩
    | succ k =>
      simp only [setT] at h
      split at h
      · rename_i t ht; simp only [Option.some.injEq] at h; subst h
        obtain ⟨h1, z, h2⟩ := ih ht
        exact ⟨by simp [h1], z, by simpa using h2⟩
      · cases h
theorem op_st {t : Nat} {p q : Operand} {g j T : Nat} {cells rs : List TV} {x : TV} {H'} (i : Nat) (hl : ev L p = some (.ptr g j)) (hq : ev L q = some x) (hr : getR H i = some (Blk g T cells)) (ht : Scal P t) (hx : x.one = true) (hs : setT cells j x = some rs)
    (hu : setR H i (Blk g T rs) = some H') (h : next L H') : Op1 P ⟨none, .store t p q, ty, ps, af, gd⟩ n c L H next := by
  obtain ⟨rfl, y, hy⟩ := setT_spec hs
  exact op_store i hl hq hr ht hx hy hu h
theorem op_sts {t k : Nat} {p q : Operand} {g j T : Nat} {cells xs rs : List TV} {H'} (i : Nat) (hl : ev L p = some (.ptr g j)) (hq : ev L q = some (.agg xs)) (hr : getR H i = some (Blk g T cells)) (ht : Aggr P t k) (hk : Nat.beq xs.length k = true) (hx : xs.all TV.one = true) (hs : repl cells j xs = some rs)
    (hu : setR H i (Blk g T rs) = some H') (h : next L H') : Op1 P ⟨none, .store t p q, ty, ps, af, gd⟩ n c L H next := by
  refine ⟨fun K Q hK a w he hs' => ?_⟩
  obtain ⟨G, pm, pm'⟩ := getR_perm hr
  obtain ⟨h1, hb, hi, _⟩ := hs'.get hr
  have hblk := hi g _ hb
  have hk := Nat.eq_of_beq_eq_true hk
  obtain ⟨hle, hrs⟩ := repl_spec _ _ _ _ hs
  have h1v : ∀ v ∈ TV.vs xs, v.oneCell' = true := by
    intro v hv; rw [TV.vs_map] at hv
    obtain ⟨x, hx', rfl⟩ := List.mem_map.1 hv
    exact TV.one_v (by simp at hx; exact hx x hx')
  have hst := run_storeCells P g T (0, 0) (TV.vs xs) j 0 (TV.vs cells).toArray w hblk (by simp [vs_length]; omega) (.inl rfl) h1v
  simp only [Nat.add_zero] at hst
  have hwr : wr (TV.vs cells).toArray j (TV.vs xs) = (TV.vs rs).toArray := by
    rw [← Array.toList_inj, wr_list _ _ _ (by simp [vs_length]; omega), hrs]
    simp [TV.vs_map]
  rw [hwr] at hst
  have hrun : (execOp a.eval ⟨none, .store t p q, ty, ps, af, gd⟩).run P w = .ok .skip (w.setRow g (TV.vs rs).toArray) := by
    have e : (Instr.storeAt t (.pointer (some ⟨g, j, none⟩)) (TV.agg xs).v).run P w = .ok () (w.setRow g (TV.vs rs).toArray) := by
      simp [Instr.storeAt, Instr.sureAddr, storeVar, ht.sz, TV.v, Value.cells, vs_length, hk, hst]
    simp [execOp, ev_spec he hl, ev_spec he hq, e]
    simp only [TV.v] at e ⊢
    simp [e]
  unfold Oper.wp; rw [hrun]
  refine hK _ _ h _ _ he (S.perm ?_ (pm' _ _ hu).symm)
  refine (hs'.perm pm).step (fun h1 hb hi _ => ⟨fun k => if k = g then some (.cells (TV.vs rs).toArray T (0, 0)) else h1 k, by simp [Blk], ?_, ?_, ?_⟩) ⟨rfl, rfl, rfl, by simp⟩
  · intro k y hy
    dsimp only at hy
    split at hy
    · rename_i e; subst e; cases hy
      exact setRow_heap w _ _ _ _ _ (hi _ _ hb)
    · rename_i e; rw [setRow_other w g k _ e]; exact hi k y hy
  · intro k hk
    left
    dsimp only at hk
    split at hk
    · rename_i e; subst e; have : h1 k = _ := hb; rw [this]; simp
    · exact hk
  · intro k y hk hy
    have : k ≠ g := fun e => by subst e; have : h1 k = _ := hb; rw [this] at hk; cases hk
    rw [setRow_other w g k _ this]; exact hy
theorem W_split {dd : Nat} {t : Bool} (hl : look L dd = some (.b t)) (ht : t = true → W P ops Q rest n c ((dd, .b true) :: L) H) (hf : t = false → W P ops Q rest n c ((dd, .b false) :: L) H) : W P ops Q rest n c L H := by
  have key : ∀ b, t = b → W P ops Q rest n c ((dd, .b b) :: L) H → W P ops Q rest n c L H := by
    intro b hb h
    subst hb
    refine W_env h fun i x hx => ?_
    simp only [look] at hx
    cases hdi : Nat.beq dd i with
    | true =>
      simp only [hdi, cond_true, Option.some.injEq] at hx
      have := Nat.eq_of_beq_eq_true hdi
      subst this; subst hx; exact hl
    | false => simpa [hdi] using hx
  cases t
  · exact key false rfl (hf rfl)
  · exact key true rfl (ht rfl)
theorem maxDepth_succ : ∃ k, Op.maxDepth = k + 1 := ⟨Op.maxDepth - 1, by decide +kernel⟩
theorem rd_ptr_eq {t t' : TypeId} {e : TypeId} {p q : Operand} {g j : Nat} (hx : ev L p = some (.ptr g j)) (hy : ev L q = some .nilp) (ht : P.underlying t = some (.pointer e)) : Rd P ⟨d, .binOp .eql t p q t', ty, ps, af, gd⟩ n c L (.b false) := by
  refine ⟨fun a he w _ => ?_⟩
  have e2 : (Op.equal t (.pointer (some ⟨g, j, none⟩)) (.pointer none)).run P w = .ok false w := by
    obtain ⟨dd, hd⟩ := maxDepth_succ
    unfold Op.equal
    rw [hd]
    simp only [Op.equalIn, Sem.run_bind, run_und ht, Result.andThen_ok]
    rfl
  have e1 : (eqGuard .eql t p q (.pointer (some ⟨g, j, none⟩)) (.pointer none)).run P w = .ok () w := by unfold eqGuard; simp
  have e3 : (binOp .eql t (.pointer (some ⟨g, j, none⟩)) (.pointer none)).run P w = .ok (.bool false) w := by
    show ((do let r ← Op.equal t (.pointer (some ⟨g, j, none⟩)) (.pointer none); pure (Value.bool r) : Sem Value)).run P w = _
    simp [e2]
  simp [execOp, ev_spec he hx, ev_spec he hy, TV.v, e1, e3]
theorem rd_ptr_ne {t t' : TypeId} {e : TypeId} {p q : Operand} {g j : Nat} (hx : ev L p = some (.ptr g j)) (hy : ev L q = some .nilp) (ht : P.underlying t = some (.pointer e)) : Rd P ⟨d, .binOp .neq t p q t', ty, ps, af, gd⟩ n c L (.b true) := by
  refine ⟨fun a he w _ => ?_⟩
  have e2 : (Op.equal t (.pointer (some ⟨g, j, none⟩)) (.pointer none)).run P w = .ok false w := by
    obtain ⟨dd, hd⟩ := maxDepth_succ
    unfold Op.equal
    rw [hd]
    simp only [Op.equalIn, Sem.run_bind, run_und ht, Result.andThen_ok]
    rfl
  have e1 : (eqGuard .neq t p q (.pointer (some ⟨g, j, none⟩)) (.pointer none)).run P w = .ok () w := by unfold eqGuard; simp
  have e3 : (binOp .neq t (.pointer (some ⟨g, j, none⟩)) (.pointer none)).run P w = .ok (.bool true) w := by
    show ((do let r ← Op.equal t (.pointer (some ⟨g, j, none⟩)) (.pointer none); pure (Value.bool !r) : Sem Value)).run P w = _
    simp [e2]
  simp [execOp, ev_spec he hx, ev_spec he hy, TV.v, e1, e3]
theorem rd_nil_eq {t t' : TypeId} {e : TypeId} {p q : Operand} (hx : ev L p = some .nilp) (hy : ev L q = some .nilp) (ht : P.underlying t = some (.pointer e)) : Rd P ⟨d, .binOp .eql t p q t', ty, ps, af, gd⟩ n c L (.b true) := by
  refine ⟨fun a he w _ => ?_⟩
  have e2 : (Op.equal t (.pointer none) (.pointer none)).run P w = .ok true w := by
    obtain ⟨dd, hd⟩ := maxDepth_succ
    unfold Op.equal
    rw [hd]
    simp only [Op.equalIn, Sem.run_bind, run_und ht, Result.andThen_ok]
    rfl
  have e1 : (eqGuard .eql t p q (.pointer none) (.pointer none)).run P w = .ok () w := by unfold eqGuard; simp
  have e3 : (binOp .eql t (.pointer none) (.pointer none)).run P w = .ok (.bool true) w := by
    show ((do let r ← Op.equal t (.pointer none) (.pointer none); pure (Value.bool r) : Sem Value)).run P w = _
    simp [e2]
  simp [execOp, ev_spec he hx, ev_spec he hy, TV.v, e1, e3]
theorem rd_nil_ne {t t' : TypeId} {e : TypeId} {p q : Operand} (hx : ev L p = some .nilp) (hy : ev L q = some .nilp) (ht : P.underlying t = some (.pointer e)) : Rd P ⟨d, .binOp .neq t p q t', ty, ps, af, gd⟩ n c L (.b false) := by
  refine ⟨fun a he w _ => ?_⟩
  have e2 : (Op.equal t (.pointer none) (.pointer none)).run P w = .ok true w := by
    obtain ⟨dd, hd⟩ := maxDepth_succ
    unfold Op.equal
    rw [hd]
    simp only [Op.equalIn, Sem.run_bind, run_und ht, Result.andThen_ok]
    rfl
  have e1 : (eqGuard .neq t p q (.pointer none) (.pointer none)).run P w = .ok () w := by unfold eqGuard; simp
  have e3 : (binOp .neq t (.pointer none) (.pointer none)).run P w = .ok (.bool false) w := by
    show ((do let r ← Op.equal t (.pointer none) (.pointer none); pure (Value.bool !r) : Sem Value)).run P w = _
    simp [e2]
  simp [execOp, ev_spec he hx, ev_spec he hy, TV.v, e1, e3]
def cutA (A : Option Addr) (lo cp sz : Nat) : Option Addr := if cp = lo then A else A.map (fun a => a.add (lo * sz))
theorem RS.cut {o : Hp} {sz : Nat} {A m cp xs} (h : RS o sz A m cp xs) {lo hi mx : Nat} (h1 : lo ≤ hi) (h2 : hi ≤ m) (h3 : hi ≤ mx) (h4 : mx ≤ cp) : RS o sz (cutA A lo mx sz) (hi - lo) (mx - lo) ((xs.drop (lo * sz)).take ((hi - lo) * sz)) := by
  have hm := h.cap
  refine ⟨?_, ⟨by omega, by have := hm.2; omega⟩, ?_⟩
  · rw [List.length_take, List.length_drop, h.len, ← Nat.sub_mul]
    exact Nat.min_eq_left (Nat.mul_le_mul_right _ (by omega))
  · rcases h.at_ with h0 | ⟨g, off, cs, T, fr, e, hg, hc⟩
    · left; omega
    · by_cases hlo : mx = lo
      · left; omega
      · right
        refine ⟨g, off + lo * sz, cs, T, fr, by simp [cutA, hlo, e, add_plain], hg, fun j x hx => ?_⟩
        rw [List.getElem?_take] at hx
        split at hx
        · rw [Nat.add_assoc]; exact hc _ _ (by simpa using hx)
        · cases hx
def bnd (L : List (Nat × TV)) : Option Operand → Nat → Option Int
  | none, k => some k
  | some p, _ => match ev L p with
    | some x => cntTV x
    | none => none
theorem run_bound {a : Act} {w : World} {p : Operand} {z : Int} {y : TV} {k : Nat} {code : BoundsCode} (he : E n L a) (hx : ev L p = some y) (hz : cntTV y = some z) (hb : 0 ≤ z ∧ z ≤ k) : (Instr.sliceBound (a.eval p) k code).run P w = .ok z.toNat w := by
  obtain ⟨kk, hk⟩ := cntTV_v hz
  simp [Instr.sliceBound, ev_spec he hx, hk, asIntOf, hb]
theorem run_slice {a : Act} {w : World} {t e sz : Nat} {A : Option Addr} {m cp : Nat} {lo hi : Option Operand} {zl zh : Int} (he : E n L a) (ht : P.underlying t = some (.slice e)) (hsz : ∀ w, (Go.sizeOf e).run P w = .ok sz w)
    (hlo : bnd L lo 0 = some zl) (hhi : bnd L hi m = some zh) (h0 : 0 ≤ zl) (h1 : zl ≤ zh) (h2 : zh ≤ cp) :
    (Instr.sliceAt t (.slice A m cp) (lo.map a.eval) (hi.map a.eval) none).run P w = .ok (.slice (cutA A zl.toNat cp sz) (zh.toNat - zl.toNat) (cp - zl.toNat)) w := by
  have hu := run_und (w := w) ht
  have key : (Instr.sliceBounds true m cp (lo.map a.eval) (hi.map a.eval) none).run P w = .ok (zl.toNat, zh.toNat, cp) w := by
    unfold Instr.sliceBounds
    cases hi with
    | none =>
      simp only [bnd, Option.some.injEq] at hhi; subst hhi
      cases lo with
      | none => simp only [bnd, Option.some.injEq] at hlo; subst hlo; simp
      | some p =>
        simp only [bnd] at hlo
        split at hlo
        · rename_i y hy
          have := run_bound (P := P) (w := w) (k := m) (code := BoundsCode.sliceB) he hy hlo ⟨h0, h1⟩
          simp [this]
        · cases hlo
    | some q =>
      simp only [bnd] at hhi
      split at hhi
      · rename_i yh hyh
        have hq := run_bound (P := P) (w := w) (k := cp) (code := BoundsCode.sliceAcap) he hyh hhi ⟨by omega, h2⟩
        cases lo with
        | none => simp only [bnd, Option.some.injEq] at hlo; subst hlo; simp [hq]
        | some p =>
          simp only [bnd] at hlo
          split at hlo
          · rename_i y hy
            have := run_bound (P := P) (w := w) (k := zh.toNat) (code := BoundsCode.sliceB) he hy hlo ⟨h0, by omega⟩
            simp [hq, this]
          · cases hlo
      · cases hhi
  simp [Instr.sliceAt, hu, Instr.slice, key, hsz, cutA]
theorem rd_slice {t e sz : Nat} {p : Operand} {A : Option Addr} {m cp : Nat} {lo hi : Option Operand} {zl zh : Int} (ht : P.underlying t = some (.slice e)) (hsz : ∀ w, (Go.sizeOf e).run P w = .ok sz w) (hx : ev L p = some (.sl A m cp))
    (hlo : bnd L lo 0 = some zl) (hhi : bnd L hi m = some zh) (hb : 0 ≤ zl ∧ zl ≤ zh ∧ zh ≤ cp) :
    Rd P ⟨d, .slice t p lo hi none, ty, ps, af, gd⟩ n c L (.sl (cutA A zl.toNat cp sz) (zh.toNat - zl.toNat) (cp - zl.toNat)) := by
  refine ⟨fun a he w _ => ?_⟩
  have := run_slice (P := P) (w := w) (A := A) (sz := sz) he ht hsz hlo hhi hb.1 hb.2.1 hb.2.2
  simp [execOp, ev_spec he hx, TV.v, this]
theorem rd_slice3 {t e sz : Nat} {p plo phi pmx : Operand} {A : Option Addr} {m cp : Nat} {yl yh ym : TV} {zl zh zm : Int} (ht : P.underlying t = some (.slice e)) (hsz : ∀ w, (Go.sizeOf e).run P w = .ok sz w) (hx : ev L p = some (.sl A m cp))
    (hlo : ev L plo = some yl) (hl' : cntTV yl = some zl) (hhi : ev L phi = some yh) (hh' : cntTV yh = some zh) (hmx : ev L pmx = some ym) (hm' : cntTV ym = some zm) (hb : 0 ≤ zl ∧ zl ≤ zh ∧ zh ≤ zm ∧ zm ≤ cp) :
    Rd P ⟨d, .slice t p (some plo) (some phi) (some pmx), ty, ps, af, gd⟩ n c L (.sl (cutA A zl.toNat zm.toNat sz) (zh.toNat - zl.toNat) (zm.toNat - zl.toNat)) := by
  refine ⟨fun a he w _ => ?_⟩
  have hu := run_und (w := w) ht
  have e1 := run_bound (P := P) (w := w) (k := cp) (code := BoundsCode.slice3Acap) he hmx hm' ⟨by omega, by omega⟩
  have e2 := run_bound (P := P) (w := w) (k := zm.toNat) (code := BoundsCode.slice3B) he hhi hh' ⟨by omega, by omega⟩
  have e3 := run_bound (P := P) (w := w) (k := zh.toNat) (code := BoundsCode.slice3C) he hlo hl' ⟨by omega, by omega⟩
  have key : (Instr.sliceBounds true m cp (some (a.eval plo)) (some (a.eval phi)) (some (a.eval pmx))).run P w = .ok (zl.toNat, zh.toNat, zm.toNat) w := by
    unfold Instr.sliceBounds
    simp [e1, e2, e3]
  have : (Instr.sliceAt t (.slice A m cp) (some (a.eval plo)) (some (a.eval phi)) (some (a.eval pmx))).run P w = .ok (.slice (cutA A zl.toNat zm.toNat sz) (zh.toNat - zl.toNat) (zm.toNat - zl.toNat)) w := by
    simp [Instr.sliceAt, hu, Instr.slice, key, hsz, cutA]
  simp [execOp, ev_spec he hx, TV.v, this]
theorem rd_min {t t' : TypeId} {p q : Operand} {x y : Int} (hx : ev L p = some (.i64 x)) (hy : ev L q = some (.i64 y)) : Rd P ⟨d, .call { callee := .builtin .min, args := #[p, q], argTypes := #[t, t'] }, ty, ps, af, gd⟩ n c L (.i64 (min x y)) := by
  refine ⟨fun a he w _ => ?_⟩
  simp [execOp, resolve, invoke, builtin, Builtin.min_, Builtin.min2, ev_spec he hx, ev_spec he hy, TV.v]
  split <;> omega
theorem rd_max {t t' : TypeId} {p q : Operand} {x y : Int} (hx : ev L p = some (.i64 x)) (hy : ev L q = some (.i64 y)) : Rd P ⟨d, .call { callee := .builtin .max, args := #[p, q], argTypes := #[t, t'] }, ty, ps, af, gd⟩ n c L (.i64 (max x y)) := by
  refine ⟨fun a he w _ => ?_⟩
  simp [execOp, resolve, invoke, builtin, Builtin.max_, Builtin.max2, ev_spec he hx, ev_spec he hy, TV.v]
  split <;> omega
theorem rd_slen {t : Nat} {p : Operand} {s : List UInt8} (ht : P.underlying t = some .string) (hx : ev L p = some (.str s)) :
    Rd P ⟨d, .call { callee := .builtin .len, args := #[p], argTypes := #[t] }, ty, ps, af, gd⟩ n c L (.i64 s.length) := by
  refine ⟨fun a he w _ => ?_⟩
  have e : (⟨s.toArray⟩ : ByteArray).size = s.length := rfl
  simp [execOp, resolve, invoke, builtin, Builtin.len_, ev_spec he hx, TV.v, run_und ht, goInt, e]
theorem toList_mk (s : List UInt8) : (⟨s.toArray⟩ : ByteArray).toList = s := Go.ByteArray.toList_mk s
def binStr (op : BinOp) (s t : List UInt8) : Option TV :=
  match op with
  | .eql => some (.b (s == t)) | .neq => some (.b (!(s == t))) | .lss => some (.b (Op.bytesLess s t)) | .leq => some (.b (Op.bytesLess s t || s == t)) | .gtr => some (.b (!(Op.bytesLess s t || s == t))) | .geq => some (.b (!Op.bytesLess s t)) | _ => none
theorem rd_str {op : BinOp} {t t' : TypeId} {p q : Operand} {x y : List UInt8} {z : TV} (hx : ev L p = some (.str x)) (hy : ev L q = some (.str y)) (hz : binStr op x y = some z) : Rd P ⟨d, .binOp op t p q t', ty, ps, af, gd⟩ n c L z := by
  refine ⟨fun a he w _ => ?_⟩
  have e1 : (eqGuard op t p q (TV.str x).v (TV.str y).v).run P w = .ok () w := by unfold eqGuard; simp [TV.v]
  have e2 : (binOp op t (TV.str x).v (TV.str y).v).run P w = .ok z.v w := by
    cases op <;> simp only [binStr, Option.some.injEq, reduceCtorEq] at hz <;> subst hz <;> simp only [TV.v, binOp, Op.stringOp, toList_mk] <;> rfl
  simp [execOp, ev_spec he hx, ev_spec he hy, e1, e2]
theorem rd_cat {t t' : TypeId} {p q : Operand} {x y : List UInt8} (hx : ev L p = some (.str x)) (hy : ev L q = some (.str y)) (hb : x.length + y.length ≤ 9223372036854775807) : Rd P ⟨d, .binOp .add t p q t', ty, ps, af, gd⟩ n c L (.str (x ++ y)) := by
  refine ⟨fun a he w _ => ?_⟩
  have e1 : (eqGuard .add t p q (TV.str x).v (TV.str y).v).run P w = .ok () w := by unfold eqGuard; simp [TV.v]
  have e2 : (binOp .add t (TV.str x).v (TV.str y).v).run P w = .ok (TV.str (x ++ y)).v w := by
    have e : (⟨x.toArray⟩ : ByteArray) ++ ⟨y.toArray⟩ = ⟨(x ++ y).toArray⟩ := by
      apply ByteArray.ext; simp
    simp only [TV.v, binOp, Op.stringOp, e]
    rw [if_neg]
    · rfl
    · simp only [ByteArray.size, List.size_toArray, IntKind.max, IntKind.signed, IntKind.bits]
      simp
      omega
  simp [execOp, ev_spec he hx, ev_spec he hy, e1, e2]
end
end Go.Hb
