/- A part of the proofs of this seat: rules of a logic of owned and of lent memory, what functions compute, or their walks. -/
import Derived.Test.YtclediplagkblaaGreatOpn1
import Derived.OpenShut
set_option linter.unusedVariables false
set_option linter.unusedSimpArgs false
namespace Go.Hb
open Go
theorem Opens.str {P : Program} {t : Nat} (ht : P.underlying t = some .string) : Opens P t 1 (fun _ tvs => ∃ s, tvs = [.str s] ∧ s.length ≤ maxLen) := by
  refine ⟨fun {H enc w base spare held fuel cs x} h => ?_⟩
  cases fuel with
  | zero => simp [DataW.trod] at h
  | succ n =>
    unfold DataW.trod at h
    rw [ht] at h
    split at h <;> simp_all
    rename_i s
    exact ⟨[.str s.data.toList], rfl, rfl, _, rfl, h.1⟩
theorem int_raw {P : Program} {t : Nat} {k : IntKind} (ht : P.underlying t = some (.int k)) {H : Type} {enc : TypeId × Value → H} {w : World} {base : Nat} {spare : Nat → Bool} {held : Bool} {fuel : Nat} {cs : List Value} {x : DataW H × List MemPlace} (h : DataW.trod enc P w base spare held fuel t cs = some x) : ∃ n, cs = [.int k n] ∧ (Lit.int k n).wf = true := by
  cases fuel with
  | zero => simp [DataW.trod] at h
  | succ n =>
    unfold DataW.trod at h
    rw [ht] at h
    split at h <;> simp_all
theorem Opens.u8 {P : Program} {t : Nat} (ht : P.underlying t = some (.int .u8)) : Opens P t 1 (fun _ tvs => ∃ b, tvs = [.u8 b]) := by
  refine ⟨fun h => ?_⟩
  obtain ⟨n, rfl, hw⟩ := int_raw ht h
  have hb : 0 ≤ n ∧ n ≤ 255 := Go.bounds_u8 hw
  exact ⟨[.u8 (UInt8.ofNat n.toNat)], by simp [TV.vs, TV.v]; omega, rfl, _, rfl⟩
inductive FieldsOpen (P : Program) : List (Nat × TypeId) → Nat → Nat → (Hp → List TV → Prop) → Prop
  | nil (k : Nat) : FieldsOpen P [] k k (fun _ tvs => tvs = [])
  | cons {T : TypeId} {fs : List (Nat × TypeId)} {off sz tot : Nat} {φ ψ : Hp → List TV → Prop} (hc : P.cellsOf T = sz) (hf : Opens P T sz φ) (hr : FieldsOpen P fs (off + sz) tot ψ) :
      FieldsOpen P ((off, T) :: fs) off tot (fun o tvs => ∃ a b, tvs = a ++ b ∧ a.length = sz ∧ φ o a ∧ ψ o b)
theorem FieldsOpen.go {P : Program} {w : World} {H : Type} {enc : TypeId × Value → H} {base : Nat} {spare : Nat → Bool} {held : Bool} {n : Nat} {fs : List (Nat × TypeId)} {off tot : Nat} {ψ : Hp → List TV → Prop} (h : FieldsOpen P fs off tot ψ) (cs : List Value) (hl : cs.length = tot)
    (hx : ∀ f ∈ fs, ∃ y, DataW.trod enc P w base spare held n f.2 ((cs.drop f.1).take (P.cellsOf f.2)) = some y) : ∃ tvs, TV.vs tvs = cs.drop off ∧ tvs.length = tot - off ∧ off ≤ tot ∧ ψ (Hp.of w) tvs := by
  induction h with
  | nil k => exact ⟨[], by rw [List.drop_of_length_le (by omega)]; rfl, by simp, Nat.le_refl _, rfl⟩
  | cons hc hf hr ih =>
    rename_i T fs off sz tot φ ψ
    obtain ⟨b, b1, b2, b3, b4⟩ := ih hl (fun g hg => hx g (List.mem_cons_of_mem _ hg))
    obtain ⟨y, hy⟩ := hx (off, T) List.mem_cons_self
    obtain ⟨a, a1, a2, a3⟩ := hf.go hy
    simp only [hc] at a1
    refine ⟨a ++ b, ?_, by simp only [List.length_append, a2, b2]; omega, by omega, a, b, rfl, a2, a3, b4⟩
    rw [vs_append, a1, b1, ← List.drop_drop, List.take_append_drop]
theorem Opens.struct {P : Program} {t tot : Nat} {fs : List (Nat × TypeId)} {ψ : Hp → List TV → Prop} (ht : ((P.underlying t).bind fun d => match d with | .struct F => some (F.toList.map fun f => (f.offset, f.type)) | _ => none) = some fs) (hc : P.cellsOf t = tot) (h : FieldsOpen P fs 0 tot ψ) : Opens P t tot ψ := by
  obtain ⟨d, hd, hm⟩ := Option.bind_eq_some_iff.1 ht
  split at hm
  rotate_left
  · cases hm
  rename_i F
  have ht := hd
  have hF : F.toList.map (fun f => (f.offset, f.type)) = fs := by simpa using hm
  refine ⟨fun {H enc w base spare held fuel cs x} hx => ?_⟩
  obtain ⟨xs, n, rfl, rfl, hl, hxl, hall⟩ := DataW.trod_struct ht hx
  obtain ⟨tvs, h1, h2, _, h4⟩ := h.go (enc := enc) (w := w) (base := base) (spare := spare) (held := held) (n := n) cs (by rw [hl, hc]) (fun f hf => by
    subst hF
    obtain ⟨g, hg, rfl⟩ := List.mem_map.1 hf
    obtain ⟨i, hi, rfl⟩ := List.getElem_of_mem hg
    have hi' : i < F.size := by simpa using hi
    have := hall i F[i] (by simp [hi'])
    rw [List.getElem?_eq_getElem (by omega)] at this
    exact ⟨_, this⟩)
  exact ⟨tvs, by simpa using h1, by simpa using h2, h4⟩
end Go.Hb
