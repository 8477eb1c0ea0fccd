/- A part of the proofs of this seat: rules of a logic of owned and of lent memory, what functions compute, or their walks. -/
import Derived.Test.YtclediplagkblaaGreatCore9
set_option linter.unusedVariables false
set_option linter.unusedSimpArgs false
namespace Go.Hb
open Go
theorem SlT.ofB {P : Program} {t e sz by_ : Nat} (h : (match P.underlying t, P.info? e with
    | some (.slice e'), some i => e' == e && i.size == sz && i.bytes == by_ && (match i.zero with | some z => z.cells.size == sz | none => false)
    | _, _ => false) = true) (hp : Nat.blt 0 sz = true) : SlT P t e sz by_ := by
  split at h
  · rename_i e' i h1 h2
    simp only [Bool.and_eq_true, beq_iff_eq] at h
    obtain ⟨⟨⟨rfl, h4⟩, h5⟩, h6⟩ := h
    split at h6
    · rename_i z hz
      exact ⟨h1, ⟨i, z, h2, hz, h4, h5, by simpa using h6⟩, by simpa using hp⟩
    · cases h6
  · cases h
theorem Zero.ofB {P : Program} {t : TypeId} {zs : List TV} (v : Value) (h : ∀ w, (zeroValue t).run P w = .ok v w) (hv : v.cells = (TV.vs zs).toArray) : Zero P t zs := ⟨fun w => ⟨v, h w, hv⟩⟩
section
variable {P : Program} {n : Nat} {c : Cx} {L : List (Nat × TV)} {H : List Res} {next : List (Nat × TV) → List Res → Prop} {d : Option Tmp} {ty : TypeId} {ps : String} {af : Array Edge} {gd : Option (Nat × Bool)}
variable {Q : Exit → Act → World → Prop} {ops : Array Oper} {rest : List Oper}
theorem rd_indexN {t e sz by_ : Nat} {p q : Operand} {A : Option Addr} {m cp k : Nat} {xs : List TV} (hT : SlT P t e sz by_) (hR : RS c.o sz A m cp xs) (hx : ev L p = some (.sl A m cp)) (hy : ev L q = some (.i64 (k : Int))) (hb : k < m) :
    Rd P ⟨d, .indexAddr t p q, ty, ps, af, gd⟩ n c L (.el A (k * sz)) := by
  have := rd_index (d := d) (ty := ty) (ps := ps) (af := af) (gd := gd) (n := n) hT.und hT.sizeOf hR hx hy (z := k) rfl ⟨by omega, by omega⟩
  simpa using this
theorem rd_indexN1 {t e by_ : Nat} {p q : Operand} {A : Option Addr} {m cp k : Nat} {xs : List TV} (hT : SlT P t e 1 by_) (hR : RS c.o 1 A m cp xs) (hx : ev L p = some (.sl A m cp)) (hy : ev L q = some (.i64 (k : Int))) (hb : k < m) :
    Rd P ⟨d, .indexAddr t p q, ty, ps, af, gd⟩ n c L (.el A k) := by
  have := rd_indexN (d := d) (ty := ty) (ps := ps) (af := af) (gd := gd) (n := n) hT hR hx hy hb
  simpa using this
theorem rd_indexI1 {t e by_ : Nat} {p q : Operand} {A : Option Addr} {m cp : Nat} {xs : List TV} {y : TV} {z : Int} (hT : SlT P t e 1 by_) (hR : RS c.o 1 A m cp xs) (hx : ev L p = some (.sl A m cp)) (hy : ev L q = some y) (hz : cntTV y = some z) (hb : 0 ≤ z ∧ z < m) :
    Rd P ⟨d, .indexAddr t p q, ty, ps, af, gd⟩ n c L (.el A z.toNat) := by
  have := rd_index (d := d) (ty := ty) (ps := ps) (af := af) (gd := gd) (n := n) hT.und hT.sizeOf hR hx hy hz hb
  simpa using this
theorem op_indexN {t e sz by_ : Nat} {dd : Nat} {p q : Operand} {A : Option Addr} {m cp T k : Nat} {xs : List TV} (i : Nat) (hT : SlT P t e sz by_) (hx : ev L p = some (.sl A m cp)) (hr : getR H i = some (Row sz T A m cp xs)) (hy : ev L q = some (.i64 (k : Int))) (hb : k < m) (hdn : Nat.blt dd n = true)
    (h : next ((dd, .el A (k * sz)) :: L) H) : Op1 P ⟨some dd, .indexAddr t p q, ty, ps, af, gd⟩ n c L H next :=
  op_index (z := k) i hT.und hT.sizeOf hx hr hy rfl ⟨by omega, by omega⟩ hdn (by simpa using h)
theorem op_indexN1 {t e by_ : Nat} {dd : Nat} {p q : Operand} {A : Option Addr} {m cp T k : Nat} {xs : List TV} (i : Nat) (hT : SlT P t e 1 by_) (hx : ev L p = some (.sl A m cp)) (hr : getR H i = some (Row 1 T A m cp xs)) (hy : ev L q = some (.i64 (k : Int))) (hb : k < m) (hdn : Nat.blt dd n = true)
    (h : next ((dd, .el A k) :: L) H) : Op1 P ⟨some dd, .indexAddr t p q, ty, ps, af, gd⟩ n c L H next :=
  op_index (z := k) i hT.und hT.sizeOf hx hr hy rfl ⟨by omega, by omega⟩ hdn (by simpa using h)
theorem op_indexI1 {t e by_ : Nat} {dd : Nat} {p q : Operand} {A : Option Addr} {m cp T : Nat} {xs : List TV} {y : TV} {z : Int} (i : Nat) (hT : SlT P t e 1 by_) (hx : ev L p = some (.sl A m cp)) (hr : getR H i = some (Row 1 T A m cp xs)) (hy : ev L q = some y) (hz : cntTV y = some z) (hb : 0 ≤ z ∧ z < m) (hdn : Nat.blt dd n = true)
    (h : next ((dd, .el A z.toNat) :: L) H) : Op1 P ⟨some dd, .indexAddr t p q, ty, ps, af, gd⟩ n c L H next :=
  op_index i hT.und hT.sizeOf hx hr hy hz hb hdn (by simpa using h)
theorem rd_aindex {t e sz len : Nat} {p q : Operand} {g j : Nat} {y : TV} {z : Int} (ht : P.underlying t = some (.array len e)) (hsz : ∀ w, (Go.sizeOf e).run P w = .ok sz w) (hx : ev L p = some (.ptr g j)) (hy : ev L q = some y) (hz : cntTV y = some z) (hb : 0 ≤ z ∧ z < len) :
    Rd P ⟨d, .indexAddr t p q, ty, ps, af, gd⟩ n c L (.ptr g (j + z.toNat * sz)) := by
  refine ⟨fun a he w _ => ?_⟩
  obtain ⟨k, hk⟩ := cntTV_v hz
  have hu := run_und (w := w) ht
  have : (Instr.indexAt t (.pointer (some ⟨g, j, none⟩)) (.int k z)).run P w = .ok (.pointer (some ⟨g, j + z.toNat * sz, none⟩)) w := by
    simp [Instr.indexAt, asIntOf, hu, Instr.sureAddr, hb, hsz, add_plain]
  simp [execOp, ev_spec he hx, ev_spec he hy, hk, TV.v, this]
theorem rd_aindexN {t e len : Nat} {p q : Operand} {g j k : Nat} (ht : P.underlying t = some (.array len e)) (hs : Scal P e) (hx : ev L p = some (.ptr g j)) (hy : ev L q = some (.i64 (k : Int))) (hb : k < len) :
    Rd P ⟨d, .indexAddr t p q, ty, ps, af, gd⟩ n c L (.ptr g (j + k)) := by
  have := rd_aindex (d := d) (ty := ty) (ps := ps) (af := af) (gd := gd) (n := n) (c := c) ht hs.sz hx hy (z := k) rfl ⟨by omega, by omega⟩
  simpa using this
theorem rd_aval {t e len : Nat} {p q : Operand} {l : List TV} {y x : TV} {z : Int} (ht : P.underlying t = some (.array len e)) (hs : Scal P e) (hx : ev L p = some (.agg l)) (hy : ev L q = some y) (hz : cntTV y = some z) (hb : 0 ≤ z ∧ z < len) (hl : l[z.toNat]? = some x) :
    Rd P ⟨d, .index t p q, ty, ps, af, gd⟩ n c L x := by
  refine ⟨fun a he w _ => ?_⟩
  obtain ⟨k, hk⟩ := cntTV_v hz
  have hu := run_und (w := w) ht
  have : (Instr.index t (.agg (TV.vs l).toArray) (.int k z)).run P w = .ok x.v w := by
    simp [Instr.index, asIntOf, hu, hb, hs.sz, part, hs.ag]
    rw [show (TV.vs l)[z.toNat]? = some x.v from vs_get hl]
    rfl
  simp [execOp, ev_spec he hx, ev_spec he hy, hk, TV.v, this]
theorem rd_avals {t e len sz : Nat} {p q : Operand} {l xs : List TV} {y : TV} {z : Int} (ht : P.underlying t = some (.array len e)) (hs : Aggr P e sz) (hx : ev L p = some (.agg l)) (hy : ev L q = some y) (hz : cntTV y = some z) (hb : 0 ≤ z ∧ z < len) (hl : (l.drop (z.toNat * sz)).take sz = xs) :
    Rd P ⟨d, .index t p q, ty, ps, af, gd⟩ n c L (.agg xs) := by
  refine ⟨fun a he w _ => ?_⟩
  obtain ⟨k, hk⟩ := cntTV_v hz
  have hu := run_und (w := w) ht
  have : (Instr.index t (.agg (TV.vs l).toArray) (.int k z)).run P w = .ok (TV.agg xs).v w := by
    simp [Instr.index, asIntOf, hu, hb, hs.sz, part, hs.ag]
    subst hl
    simp only [TV.v]
    congr 1
    rw [← Array.toList_inj]
    simp [TV.vs_map, List.extract_eq_take_drop]
  simp [execOp, ev_spec he hx, ev_spec he hy, hk, TV.v, this]
theorem rd_schar {t : Nat} {p q : Operand} {s : List UInt8} {k : Nat} {b : UInt8} (ht : P.underlying t = some .string) (hx : ev L p = some (.str s)) (hy : ev L q = some (.i64 (k : Int))) (hb : s[k]? = some b) : Rd P ⟨d, .index t p q, ty, ps, af, gd⟩ n c L (.u8 b) := by
  refine ⟨fun a he w _ => ?_⟩
  have hlt := (List.getElem?_eq_some_iff.1 hb).1
  have e : ((⟨s.toArray⟩ : ByteArray)[k]? : Option UInt8) = some b := by
    have hk : k < (⟨s.toArray⟩ : ByteArray).size := hlt
    rw [getElem?_pos (⟨s.toArray⟩ : ByteArray) k hk]
    congr 1
    exact (List.getElem?_eq_some_iff.1 hb).2
  have : (Instr.index t (.string ⟨s.toArray⟩) (.int .i64 k)).run P w = .ok (.int .u8 b.toNat) w := by
    simp [Instr.index, asIntOf, run_und ht, e]
  simp [execOp, ev_spec he hx, ev_spec he hy, TV.v, this]
theorem rd_scut {t : Nat} {p : Operand} {s : List UInt8} {lo hi : Option Operand} {zl zh : Int} (ht : P.underlying t = some .string) (hx : ev L p = some (.str s)) (hlo : bnd L lo 0 = some zl) (hhi : bnd L hi s.length = some zh) (hb : 0 ≤ zl ∧ zl ≤ zh ∧ zh ≤ s.length) :
    Rd P ⟨d, .slice t p lo hi none, ty, ps, af, gd⟩ n c L (.str ((s.drop zl.toNat).take (zh.toNat - zl.toNat))) := by
  refine ⟨fun a he w _ => ?_⟩
  have hsz : (⟨s.toArray⟩ : ByteArray).size = s.length := rfl
  have key : (Instr.sliceBounds false s.length s.length (lo.map a.eval) (hi.map a.eval) none).run P w = .ok (zl.toNat, zh.toNat, s.length) w := by
    unfold Instr.sliceBounds
    cases hi with
    | none =>
      simp only [bnd, Option.some.injEq] at hhi; subst hhi
      cases lo with
      | none => simp only [bnd, Option.some.injEq] at hlo; subst hlo; simp
      | some p =>
        simp only [bnd] at hlo
        split at hlo
        · rename_i y hy
          have := run_bound (P := P) (w := w) (k := s.length) (code := BoundsCode.sliceB) he hy hlo ⟨hb.1, by omega⟩
          simp [this]
        · cases hlo
    | some q =>
      simp only [bnd] at hhi
      split at hhi
      · rename_i yh hyh
        have hq := run_bound (P := P) (w := w) (k := s.length) (code := BoundsCode.sliceAlen) he hyh hhi ⟨by omega, by omega⟩
        cases lo with
        | none => simp only [bnd, Option.some.injEq] at hlo; subst hlo; simp [hq]
        | some p =>
          simp only [bnd] at hlo
          split at hlo
          · rename_i y hy
            have := run_bound (P := P) (w := w) (k := zh.toNat) (code := BoundsCode.sliceB) he hy hlo ⟨hb.1, by omega⟩
            simp [hq, this]
          · cases hlo
      · cases hhi
  have hex : (⟨s.toArray⟩ : ByteArray).extract zl.toNat zh.toNat = ⟨((s.drop zl.toNat).take (zh.toNat - zl.toNat)).toArray⟩ := by
    apply ByteArray.ext
    rw [ByteArray.data_extract, ← Array.toList_inj]
    simp [List.extract_eq_take_drop]
  have : (Instr.sliceAt t (.string ⟨s.toArray⟩) (lo.map a.eval) (hi.map a.eval) none).run P w = .ok (TV.str ((s.drop zl.toNat).take (zh.toNat - zl.toNat))).v w := by
    simp [Instr.sliceAt, run_und ht, Instr.slice, hsz, key, hex, TV.v]
  simp [execOp, ev_spec he hx, TV.v] at this ⊢
  simp [this]
theorem run_bytes_fold (bs : List UInt8) : ∀ (acc : ByteArray) (w : World), (forIn (m := Sem) ((bs.map fun b => Value.int .u8 b.toNat).toArray) acc (fun c s => match c with
      | Value.int IntKind.u8 k => (pure (ForInStep.yield (s.push (UInt8.ofNat k.toNat))) : Sem (ForInStep ByteArray))
      | _ => do stuck "bytesToString: byte expected"; pure (ForInStep.yield s))).run P w = .ok ⟨acc.data ++ bs.toArray⟩ w := by
  intro acc w
  rw [List.forIn_toArray]
  induction bs generalizing acc with
  | nil => simp
  | cons b bs ih =>
    simp only [List.map_cons, List.forIn_cons]
    have e : UInt8.ofNat ((b.toNat : Int).toNat) = b := by simp
    simp only [e, pure_bind]
    rw [ih]
    congr 1
    apply ByteArray.ext
    rw [← Array.toList_inj]
    simp [ByteArray.push]
theorem rd_bytes_str {src dst e : TypeId} {p : Operand} {A : Option Addr} {m cp : Nat} {bs : List UInt8} (hs : P.underlying src = some (.slice e)) (he8 : P.underlying e = some (.int .u8)) (hd : P.underlying dst = some .string) (hR : RS c.o 1 A m cp (bs.map .u8)) (hx : ev L p = some (.sl A m cp)) :
    Rd P ⟨d, .convert src dst p, ty, ps, af, gd⟩ n c L (.str bs) := by
  refine ⟨fun a he w hi => ?_⟩
  have key : (Conv.bytesToString (.slice A m cp)).run P w = .ok (.string ⟨bs.toArray⟩) w := by
    rcases Nat.eq_zero_or_pos m with h0 | h0
    · have : bs = [] := by have := hR.len; subst h0; simpa using this
      subst this; subst h0
      cases A <;> simp [Conv.bytesToString, loadCells, loadCellsFrom] <;> rfl
    · obtain ⟨b, rfl, _⟩ := hR.addr h0
      have hl : (TV.vs (bs.map TV.u8)).length = m := by rw [vs_length, hR.len]; omega
      have hc : ∀ j u, (TV.vs (bs.map TV.u8))[j]? = some u → w.cell? (b.add j) = some u := by
        intro j u hu
        rw [TV.vs_map] at hu
        rw [List.getElem?_map] at hu
        obtain ⟨x, hx, rfl⟩ := Option.map_eq_some_iff.1 hu
        exact hR.cell hi rfl hx
      have := run_loadCells (P := P) (w := w) (a := b) m 0 #[] _ hl (by simpa using hc)
      have e2 : TV.vs (bs.map TV.u8) = bs.map fun b => Value.int .u8 b.toNat := by rw [TV.vs_map, List.map_map]; rfl
      have hf := run_bytes_fold (P := P) bs ByteArray.empty w
      simp only [Conv.bytesToString, loadCells, Sem.run_bind, this, Result.andThen_ok, Array.empty_append, e2]
      refine Eq.trans (congrArg (fun r => Result.andThen r _) hf) ?_
      simp
  have : (convert src dst (.slice A m cp)).run P w = .ok (.string ⟨bs.toArray⟩) w := by
    have e1 := run_und (w := w) hs
    have e2 := run_und (w := w) hd
    have e3 := run_und (w := w) he8
    cases A <;> simp [convert, e1, e2, e3, key]
  simp [execOp, ev_spec he hx, TV.v, this]
end
end Go.Hb
