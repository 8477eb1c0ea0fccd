/- A part of the proofs of this seat: rules of a logic of owned and of lent memory, what functions compute, or their walks. -/
import Derived.Test.YtclediplagkblaaGreatCore10
import Derived.Laws.IdiomStrings
import Derived.Laws.OwnMore
set_option linter.unusedVariables false
set_option linter.unusedSimpArgs false
namespace Go.Hb
open Go
section
variable {P : Program} {n : Nat} {c : Cx} {L : List (Nat × TV)} {H : List Res} {next : List (Nat × TV) → List Res → Prop} {d : Option Tmp} {ty : TypeId} {ps : String} {af : Array Edge} {gd : Option (Nat × Bool)}
variable {Q : Exit → Act → World → Prop} {ops : Array Oper} {rest : List Oper}
theorem op_str_bytes {src dst e dd : TypeId} {p : Operand} {s : List UInt8} (hs : P.underlying src = some .string) (hd : P.underlying dst = some (.slice e)) (he8 : P.underlying e = some (.int .u8)) (hx : ev L p = some (.str s)) (hl : s.length ≤ maxLen) (hdn : Nat.blt dd n = true)
    (h : ∀ A cp, A.isSome = true → next ((dd, .sl A s.length cp) :: L) (Row 1 e A s.length cp (s.map .u8) :: H)) :
    Op1 P ⟨some dd, .convert src dst p, ty, ps, af, gd⟩ n c L H next := by
  refine ⟨fun K Q hK a w he hS => ?_⟩
  have hsz : (⟨s.toArray⟩ : ByteArray).size = s.length := rfl
  have hrun := run_bytes_of_string (P := P) w src dst e ⟨s.toArray⟩ hs hd he8
  rw [hsz] at hrun
  have hge := grownCap_ge w s.length 0 e
  have hcm := grownCap_le_maxLen w s.length 0 e hl
  generalize grownCap w s.length 0 e = cp at *
  have hrun' : (execOp a.eval ⟨some dd, .convert src dst p, ty, ps, af, gd⟩).run P w = .ok (.value (TV.sl (some ⟨w.heap.size, 0, none⟩) s.length cp).v) (w.drew.alloc (.cells (bytesRow ⟨s.toArray⟩ cp) e ((bytesRow ⟨s.toArray⟩ cp).size, (bytesRow ⟨s.toArray⟩ cp).size + 1))) := by
    simp [execOp, ev_spec he hx, TV.v]
    rw [hrun]
    rfl
  unfold Oper.wp; rw [hrun']
  refine hK _ _ (h (some ⟨w.heap.size, 0, none⟩) cp rfl) _ _ (he.put (by simpa using hdn)) (hS.alloc (o := .cells (bytesRow ⟨s.toArray⟩ cp) e ((bytesRow ⟨s.toArray⟩ cp).size, (bytesRow ⟨s.toArray⟩ cp).size + 1)) rfl rfl rfl rfl ?_)
  refine ⟨by simp, .inr ⟨w.heap.size, _, _, rfl, if_pos rfl, .inr (Nat.le_refl _), hge, hcm, ?_, ?_⟩⟩
  · simp [bytesRow, hsz]; omega
  · simp [bytesRow, TV.vs_map]
    intro a _; rfl
theorem op_make {t e by_ dd : Nat} {p q : Operand} {m : Nat} {z : TV} (hT : SlT P t e 1 by_) (hz : Zero P e [z]) (hp : ev L p = some (.i64 (m : Int))) (hq : ev L q = some (.i64 (m : Int))) (hb : by_ * m ≤ 281474976710656 ∧ m ≤ maxLen) (hdn : Nat.blt dd n = true)
    (h : ∀ A, A.isSome = true → next ((dd, .sl A m m) :: L) (Row 1 e A m m (List.replicate m z) :: H)) :
    Op1 P ⟨some dd, .makeSlice t p q, ty, ps, af, gd⟩ n c L H next := by
  refine ⟨fun K Q hK a w he hS => ?_⟩
  obtain ⟨i, zv, hi, hzv, hsz, hby, hzs⟩ := hT.inf
  have h63' : (m : Int) ≤ 9223372036854775807 := by have h := hb.2; simp [maxLen] at h; omega
  have hb' : (i.bytes : Int) * (m : Int) ≤ 281474976710656 := by rw [hby]; have h : ((by_ * m : Nat) : Int) ≤ 281474976710656 := by omega
                                                                 rwa [Int.natCast_mul] at h
  have hr := run_make (P := P) w t e i zv hT.und hi hzv .i64 .i64 m m (by omega) (Int.le_refl _) hb' h63'
  simp only [Int.toNat_natCast] at hr
  have hzc : zv.cells = #[z.v] := by
    obtain ⟨v, hv, hvc⟩ := hz.run w
    have : (zeroValue e).run P w = .ok zv w := by simp [zeroValue, typeInfo, program, Sem.run, hi, hzv, go_sem]
    rw [this] at hv; cases hv
    rw [hvc]; rfl
  have hrun' : (execOp a.eval ⟨some dd, .makeSlice t p q, ty, ps, af, gd⟩).run P w = .ok (.value (TV.sl (some ⟨w.heap.size, 0, none⟩) m m).v) (w.alloc (.cells (madeCells zv.cells (m * i.size)) e)) := by
    simp [execOp, ev_spec he hp, ev_spec he hq, TV.v]
    rw [hr]
    rfl
  unfold Oper.wp; rw [hrun']
  refine hK _ _ (h (some ⟨w.heap.size, 0, none⟩) rfl) _ _ (he.put (by simpa using hdn)) (hS.alloc (o := .cells (madeCells zv.cells (m * i.size)) e) rfl rfl rfl rfl ?_)
  have hml : (madeCells zv.cells (m * i.size)).toList = List.replicate m z.v := by
    rw [hzc, hsz, Nat.mul_one, toList_madeCells_one]
  refine ⟨by simp, .inr ⟨w.heap.size, _, (0, 0), rfl, if_pos rfl, .inl rfl, Nat.le_refl _, hb.2, ?_, ?_⟩⟩
  · rw [← Array.length_toList, hml]; simp
  · rw [hml, TV.vs_map]; simp
theorem run_res_cell {a : Act} {w : World} {p g j T t k : Nat} {i : Nat} {cells xs : List TV} (he : E n L a) (hs : S c H w) (hl : look L p = some (.ptr g j)) (hr : getR H i = some (Blk g T cells)) (ht : Aggr P t k) (hc : (cells.drop j).take k = xs) (hk : xs.length = k) :
    (asAddr (a.tmps[p]?.getD undef)).run P w = .ok ⟨g, j, none⟩ w ∧ (loadVar t ⟨g, j, none⟩).run P w = .ok (TV.agg xs).v w := by
  obtain ⟨h1, hb, hi, _⟩ := hs.get hr
  have hg := he.get p _ hl
  have hcell : ∀ q v, (TV.vs xs)[q]? = some v → w.cell? ((⟨g, j, none⟩ : Addr).add q) = some v := by
    intro q v hq
    rw [TV.vs_map] at hq
    obtain ⟨x, hx, rfl⟩ := by simpa using hq
    subst hc
    have hx' : cells[j + q]? = some x := by
      rw [List.getElem?_take] at hx
      split at hx
      · simpa using hx
      · cases hx
    rw [add_plain]
    exact cell_blk (hi g _ hb) hx'
  have h2 := run_loadCells (P := P) (w := w) (a := ⟨g, j, none⟩) k 0 #[] _ (by rw [vs_length]; exact hk) (by simpa using hcell)
  exact ⟨by simp [hg, TV.v, asAddr], by simp [loadVar, ht.ag, ht.sz, loadCells, h2, TV.v]⟩
theorem Rt_cell {fn : Func} {c Qf n L H} {p t k : Nat} {g j T : Nat} {cells xs : List TV} (i : Nat) (hres : fn.results = #[.cell p t]) (hl : look L p = some (.ptr g j)) (hr : getR H i = some (Blk g T cells)) (ht : Aggr P t k) (hc : (cells.drop j).take k = xs) (hk : xs.length = k)
    (H' : List Res) (hH : ∃ G, H.Perm (H' ++ G)) (hq : Qf (.agg xs) H') : Rt (bodyPost P fn (Post c Qf)) n c L H := by
  obtain ⟨G, hG⟩ := hH
  refine ⟨fun _ a w he hs => ⟨he.defers, (TV.agg xs).v, ?_, _, H', rfl, hq, (hs.perm hG).keep⟩⟩
  have := run_res_cell (P := P) he hs hl hr ht hc hk
  simp [results, hres, this.1, this.2]
theorem Rt_cell_tmp {fn : Func} {c Qf n L H} {p t k u : Nat} {g j T : Nat} {cells xs : List TV} {y : TV} (i : Nat) (hres : fn.results = #[.cell p t, .tmp u]) (hl : look L p = some (.ptr g j)) (hr : getR H i = some (Blk g T cells)) (ht : Aggr P t k) (hc : (cells.drop j).take k = xs) (hk : xs.length = k) (hu : look L u = some y)
    (H' : List Res) (hH : ∃ G, H.Perm (H' ++ G)) (hq : Qf (.tup [.agg xs, y]) H') : Rt (bodyPost P fn (Post c Qf)) n c L H := by
  obtain ⟨G, hG⟩ := hH
  refine ⟨fun _ a w he hs => ⟨he.defers, (TV.tup [.agg xs, y]).v, ?_, _, H', rfl, hq, (hs.perm hG).keep⟩⟩
  have := run_res_cell (P := P) he hs hl hr ht hc hk
  have hg := he.get u _ hu
  simp [results, hres, this.1, this.2, hg, TV.v, TV.vs]
def pickR : List Res → List Nat → Option (List Res × List Res)
  | H, [] => some ([], H)
  | H, i :: is => match getR H i, delR H i with
    | some r, some H1 => match pickR H1 is with
      | some (A, G) => some (r :: A, G)
      | none => none
    | _, _ => none
theorem pickR_spec : ∀ {is : List Nat} {H A G : List Res}, pickR H is = some (A, G) → H.Perm (A ++ G) := by
  intro is
  induction is with
  | nil => intro H A G h; simp only [pickR, Option.some.injEq, Prod.mk.injEq] at h; obtain ⟨rfl, rfl⟩ := h; exact List.Perm.refl _
  | cons i is ih =>
    intro H A G h
    simp only [pickR] at h
    split at h
    · rename_i r H1 h1 h2
      split at h
      · rename_i A' G' h3
        simp only [Option.some.injEq, Prod.mk.injEq] at h
        obtain ⟨rfl, rfl⟩ := h
        exact (delR_perm h1 h2).trans ((ih h3).cons r)
      · cases h
    · cases h
theorem pickR_ex {is : List Nat} {H A B G : List Res} (h : pickR H is = some (A, G)) (e : A = B) : ∃ G, H.Perm (B ++ G) := by
  subst e; exact ⟨G, pickR_spec h⟩
end
end Go.Hb
