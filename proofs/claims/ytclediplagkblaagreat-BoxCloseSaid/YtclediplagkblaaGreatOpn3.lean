/- A part of the proofs of this seat: rules of a logic of owned and of lent memory, what functions compute, or their walks. -/
import Derived.Test.YtclediplagkblaaGreatOpn2
import Derived.Test.YtclediplagkblaaGreatSp9
import Derived.Below
set_option linter.unusedVariables false
set_option linter.unusedSimpArgs false
namespace Go.Hb
open Go
abbrev isU8 : Hp → List TV → Prop := fun _ tvs => ∃ b, tvs = [.u8 b]
theorem flatten_u8 {ls : List (List TV)} (h : ∀ l ∈ ls, ∃ b, l = [.u8 b]) : ∃ bs : List UInt8, bs.length = ls.length ∧ ls.flatten = bs.map .u8 := by
  induction ls with
  | nil => exact ⟨[], rfl, rfl⟩
  | cons l ls ih =>
    obtain ⟨bs, h1, h2⟩ := ih (fun m hm => h m (List.mem_cons_of_mem _ hm))
    obtain ⟨b, hb⟩ := h l List.mem_cons_self
    exact ⟨b :: bs, by simp [h1], by simp [hb, h2]⟩
theorem bytes_of {o : Hp} {tvs : List TV} (h : SliceOf 1 isU8 o tvs) : ∃ A cp bs, tvs = [.sl A (List.length bs) cp] ∧ RS o 1 A (List.length bs) cp (bs.map .u8) := by
  obtain ⟨A, cp, ls, rfl, hR, hl⟩ := h
  obtain ⟨bs, h1, h2⟩ := flatten_u8 fun l h => (hl l h).2
  exact ⟨A, cp, bs, by rw [h1], by rw [h1, ← h2]; exact hR⟩
theorem list_of {α : Type} {ls : List (List TV)} {f : α → List TV} {Q : α → Prop} (h : ∀ l ∈ ls, ∃ a, l = f a ∧ Q a) : ∃ l : List α, l.length = ls.length ∧ ls.flatten = l.flatMap f ∧ ∀ a ∈ l, Q a := by
  induction ls with
  | nil => exact ⟨[], rfl, rfl, fun a h => by cases h⟩
  | cons x ls ih =>
    obtain ⟨l, h1, h2, h3⟩ := ih (fun m hm => h m (List.mem_cons_of_mem _ hm))
    obtain ⟨a, ha, hq⟩ := h x List.mem_cons_self
    exact ⟨a :: l, by simp [h1], by simp [ha, h2], fun b hb => by rcases List.mem_cons.1 hb with rfl | hb; exact hq; exact h3 b hb⟩
def smPsi : Hp → List TV → Prop := fun o tvs => ∃ a b, tvs = a ++ b ∧ a.length = 1 ∧ SliceOf 1 isU8 o a ∧ ∃ a' b', b = a' ++ b' ∧ a'.length = 1 ∧ isU8 o a' ∧ ∃ a'' b'', b' = a'' ++ b'' ∧ a''.length = 1 ∧ SliceOf 1 isU8 o a'' ∧ b'' = []
theorem sm_of {o : Hp} {tvs : List TV} (h : smPsi o tvs) : ∃ s : Sm, tvs = s.tv ∧ s.ok o := by
  obtain ⟨_, _, rfl, _, h1, _, _, rfl, _, ⟨k, rfl⟩, _, _, rfl, _, h3, rfl⟩ := h
  obtain ⟨An, cn, nm, rfl, hn⟩ := bytes_of h1
  obtain ⟨Ap, cp, pl, rfl, hp⟩ := bytes_of h3
  exact ⟨⟨An, cn, nm, k, Ap, cp, pl⟩, rfl, hn, hp⟩
theorem sms_of {o : Hp} {tvs : List TV} (h : SliceOf 3 smPsi o tvs) : ∃ A cp, ∃ l : List Sm, tvs = [.sl A l.length cp] ∧ RS o 3 A l.length cp (l.flatMap Sm.tv) ∧ ∀ s ∈ l, s.ok o := by
  obtain ⟨A, cp, ls, rfl, hR, hl⟩ := h
  obtain ⟨l, h1, h2, h3⟩ := list_of (f := Sm.tv) (Q := fun s => s.ok o) fun x hx => sm_of (hl x hx).2
  exact ⟨A, cp, l, by rw [h1], by rw [h1, ← h2]; exact hR, h3⟩
theorem Tr.below {P : Program} {f : FuncId} {args : List TV} {R : Hp → Prop} (h : Tr P f args R [] (fun x H' => x = .b true ∧ H' = [])) (W : World) (hR : R (Hp.of W)) {vs : Array Value} (hv : (TV.vs args).toArray = vs) :
    Calls P f vs W (fun e w' => e = .returned (.bool true) ∧ Go.RowKit.Below W.heap.size W w') := by
  subst hv
  refine (h.go ⟨W, Hp.of W⟩ W hR ⟨Mt.refl W, fun k x h => h, ⟨fun _ => none, fun k x h => (by cases h), fun k => .inr rfl, trivial⟩⟩).mono fun e w' he => ?_
  obtain ⟨x, H', rfl, ⟨rfl, rfl⟩, hm, hi, _⟩ := he
  exact ⟨rfl, hm.os, hm.tape, hm.output, hm.size, fun k hk => by
    have : W.heap[k]? = some W.heap[k] := Array.getElem?_eq_getElem hk
    rw [this, hi k _ this]⟩
end Go.Hb
