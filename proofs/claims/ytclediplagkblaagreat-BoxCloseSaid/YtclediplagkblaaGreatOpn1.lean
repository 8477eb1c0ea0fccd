/- A part of the proofs of this seat: rules of a logic of owned and of lent memory, what functions compute, or their walks. -/
import Derived.Test.YtclediplagkblaaGreatCore14
import Derived.ProofKit
import Derived.Deep.Slices
set_option linter.unusedVariables false
set_option linter.unusedSimpArgs false
namespace Go.Hb
open Go
def Hp.of (w : World) : Hp := fun k => w.heap[k]?
structure Opens (P : Program) (t sz : Nat) (φ : Hp → List TV → Prop) : Prop where
  go : ∀ {H : Type} {enc : TypeId × Value → H} {w : World} {base : Nat} {spare : Nat → Bool} {held : Bool} {fuel : Nat} {cs : List Value} {x : DataW H × List MemPlace}, DataW.trod enc P w base spare held fuel t cs = some x → ∃ tvs, TV.vs tvs = cs ∧ tvs.length = sz ∧ φ (Hp.of w) tvs
theorem cell_of {w : World} {g off : Nat} {v : Value} (h : w.cell? ⟨g, off, none⟩ = some v) : ∃ cs T fr, w.heap[g]? = some (.cells cs T fr) ∧ cs[off]? = some v := by
  unfold World.cell? at h
  split at h
  · rename_i cs T fr hh
    exact ⟨cs, T, fr, hh, by simpa using h⟩
  · cases h
theorem flat_ix {sz : Nat} (ls : List (List TV)) (h : ∀ l ∈ ls, l.length = sz) : ∀ j x, ls.flatten[j]? = some x → ∃ i r l, ls[i]? = some l ∧ l[r]? = some x ∧ j = i * sz + r ∧ r < sz := by
  induction ls with
  | nil => intro j x hx; simp at hx
  | cons l ls ih =>
    intro j x hx
    have hl := h l List.mem_cons_self
    by_cases hj : j < sz
    · refine ⟨0, j, l, rfl, ?_, by omega, hj⟩
      rw [List.flatten_cons, List.getElem?_append_left (by omega)] at hx
      exact hx
    · rw [List.flatten_cons, List.getElem?_append_right (by omega), hl] at hx
      obtain ⟨i, r, l', h1, h2, h3, h4⟩ := ih (fun m hm => h m (List.mem_cons_of_mem _ hm)) _ _ hx
      refine ⟨i + 1, r, l', h1, h2, ?_, h4⟩
      rw [Nat.add_mul]; omega
def SliceOf (sz : Nat) (φ : Hp → List TV → Prop) : Hp → List TV → Prop := fun o tvs => ∃ A cp ls, tvs = [.sl A (List.length ls) cp] ∧ RS o sz A (List.length ls) cp ls.flatten ∧ ∀ l ∈ ls, l.length = sz ∧ φ o l
theorem Opens.slice {P : Program} {t e sz : Nat} {φ : Hp → List TV → Prop} (ht : P.underlying t = some (.slice e)) (hc : P.cellsOf e = sz) (hsz : 0 < sz) (he : Opens P e sz φ) : Opens P t 1 (SliceOf sz φ) := by
  refine ⟨fun {H enc w base spare held fuel cs x} h => ?_⟩
  rcases Go.Deep.open_slice ht h with ⟨rfl, _⟩ | ⟨a, len, cap, m, n, D, Pl, rfl, hb, hl, hm, hmm, _, hx⟩
  · exact ⟨[.sl none 0 0], rfl, rfl, none, 0, [], rfl, RS.nil _ _ _ (by simp), fun l h => by cases h⟩
  · have hlm : len ≤ m := by rw [hmm]; split <;> omega
    have hT : ∀ i, ∃ tvs, i < len → tvs.length = sz ∧ φ (Hp.of w) tvs ∧ ∀ r, r < sz → w.cell? (a.add (i * sz + r)) = (TV.vs tvs)[r]? := by
      intro i
      by_cases hi : i < len
      · obtain ⟨cs', h1, h2⟩ := hx i (by omega)
        obtain ⟨tvs, e1, e2, e3⟩ := he.go h2
        obtain ⟨_, h4, h5⟩ := World.cells?_some h1
        refine ⟨tvs, fun _ => ⟨e2, e3, fun r hr => ?_⟩⟩
        rw [hc] at h5
        rw [e1, ← h5 r hr, Go.Deep.add_add]
      · exact ⟨[], fun h => absurd h hi⟩
    obtain ⟨T, hT⟩ := Classical.axiomOfChoice hT
    refine ⟨[.sl (some a) len cap], rfl, rfl, some a, cap, (List.range len).map T, by simp, ?_, ?_⟩
    · have hlen : ((List.range len).map T).length = len := by simp
      rw [hlen]
      refine ⟨?_, ⟨hl, hm⟩, ?_⟩
      · have : ∀ (ls : List (List TV)), (∀ l ∈ ls, l.length = sz) → ls.flatten.length = ls.length * sz := by
          intro ls h
          induction ls with
          | nil => simp
          | cons l ls ih => rw [List.flatten_cons, List.length_append, ih (fun m hm => h m (List.mem_cons_of_mem _ hm)), h l List.mem_cons_self, List.length_cons, Nat.add_mul]; omega
        rw [this _ (by intro l hl; simp at hl; obtain ⟨i, hi, rfl⟩ := hl; exact (hT i hi).1), hlen]
      · rcases Nat.eq_zero_or_pos len with h0 | h0
        · exact .inl h0
        right
        obtain ⟨g, off, spot⟩ := a
        have hc0 := (hT 0 h0).2.2 0 hsz
        have hs0 : ∃ v, (TV.vs (T 0))[0]? = some v := by
          have := (hT 0 h0).1
          exact ⟨_, List.getElem?_eq_getElem (by rw [vs_length]; omega)⟩
        obtain ⟨v0, hv0⟩ := hs0
        rw [hv0] at hc0
        have hsp : spot = none := by simpa [Addr.add] using World.cell?_spot hc0
        subst hsp
        rw [add_plain] at hc0
        obtain ⟨cells, TT, fr, hh, _⟩ := cell_of hc0
        refine ⟨g, off, cells, TT, fr, rfl, hh, fun j x hj => ?_⟩
        obtain ⟨i, r, l, h1, h2, rfl, hr⟩ := flat_ix _ (by intro l hl; simp at hl; obtain ⟨i, hi, rfl⟩ := hl; exact (hT i hi).1) j x hj
        simp only [List.getElem?_map, Option.map_eq_some_iff] at h1
        obtain ⟨i', hi', rfl⟩ := h1
        obtain ⟨hi1, rfl⟩ := List.getElem?_eq_some_iff.1 hi'
        simp only [List.length_range] at hi1
        simp only [List.getElem_range] at h2
        have := (hT i hi1).2.2 r hr
        rw [TV.vs_map, List.getElem?_map, h2, add_plain] at this
        obtain ⟨cells', TT', fr', hh', hc'⟩ := cell_of this
        rw [hh] at hh'
        cases hh'
        rw [← hc']
    · intro l hl
      simp at hl
      obtain ⟨i, hi, rfl⟩ := hl
      exact ⟨(hT i hi).1, (hT i hi).2.1⟩
end Go.Hb
