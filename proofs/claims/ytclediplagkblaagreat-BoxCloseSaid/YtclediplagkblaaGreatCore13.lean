/- A part of the proofs of this seat: rules of a logic of owned and of lent memory, what functions compute, or their walks. -/
import Derived.Test.YtclediplagkblaaGreatCore12
set_option linter.unusedVariables false
set_option linter.unusedSimpArgs false
namespace Go.Hb
open Go
def Exr {α : Type} (f : α → List Res) : Res := fun h => ∃ a, Star (f a) h
theorem S.map {c : Cx} {A B : List Res} {w : World} (hs : S c A w) (hm : ∀ h, Star A h → Star B h) : S c B w := by
  obtain ⟨a, b, h, hi, hd, st⟩ := hs
  exact ⟨a, b, h, hi, hd, hm h st⟩
theorem Star_cons_map {R : Res} {A G : List Res} (hm : ∀ h, Star A h → R h) {h : Hp} (s : Star (A ++ G) h) : Star (R :: G) h := by
  obtain ⟨h1, h2, d, l1, l2, s1, s2⟩ := Star.append s
  exact ⟨h1, h2, d, l1, l2, hm h1 s1, s2⟩
theorem Star_open {α : Type} {f : α → List Res} {G : List Res} {h : Hp} (s : Star (Exr f :: G) h) : ∃ a, Star (f a ++ G) h := by
  obtain ⟨h1, h2, d, l1, l2, ⟨a, s1⟩, s2⟩ := s
  exact ⟨a, Star.join d l1 l2 s1 s2⟩
theorem S.open_ {α : Type} {c : Cx} {f : α → List Res} {G : List Res} {w : World} (hs : S c (Exr f :: G) w) : ∃ a, S c (f a ++ G) w := by
  obtain ⟨a, b, h, hi, hd, st⟩ := hs
  obtain ⟨x, st⟩ := Star_open st
  exact ⟨x, a, b, h, hi, hd, st⟩
theorem Sub.get {H : List Res} {o : Hp} (h : Sub H o) (i : Nat) {R : Res} (hr : getR H i = some R) : ∃ h, h.le o ∧ R h := by
  obtain ⟨h, hl, s⟩ := h
  obtain ⟨G, pm, _⟩ := getR_perm hr
  obtain ⟨h1, h2, d, l1, l2, s1, s2⟩ := Star.perm pm s
  exact ⟨h1, Hp.le_trans l1 hl, s1⟩
theorem Sub.row {H : List Res} {o : Hp} {sz T A n cp xs} (h : Sub H o) (i : Nat) (hr : getR H i = some (Row sz T A n cp xs)) : RS o sz A n cp xs := by
  obtain ⟨h1, hl, r⟩ := h.get i hr
  exact (RowP.rs r).mono hl
theorem Sub.blk {H : List Res} {o : Hp} {g T cells} (h : Sub H o) (i : Nat) (hr : getR H i = some (Blk g T cells)) : o g = some (.cells (TV.vs cells).toArray T (0, 0)) := by
  obtain ⟨h1, hl, r⟩ := h.get i hr
  exact hl _ _ r
section
variable {P : Program} {n : Nat} {c : Cx} {L : List (Nat × TV)} {H : List Res} {next : List (Nat × TV) → List Res → Prop} {d : Option Tmp} {ty : TypeId} {ps : String} {af : Array Edge} {gd : Option (Nat × Bool)}
variable {Q : Exit → Act → World → Prop} {ops : Array Oper} {rest : List Oper} {k : Option Nat} {fuel : Nat} {l : Array Bool}
theorem rd_fieldAddr_elR {s f off : Nat} {p : Operand} {A : Option Addr} {k : Nat} (hf : FA P s f off) (hl : ev L p = some (.el A k)) (hA : ∃ a, A = some a ∧ a.spot = none) : Rd P ⟨d, .fieldAddr s p f, ty, ps, af, gd⟩ n c L (.el A (k + off)) := by
  obtain ⟨a, h⟩ := hA
  exact rd_fieldAddr_el hf hl h
theorem C_open {α : Type} {code} {f : α → List Res} {G : List Res} (is : List Nat) (hp : pickR H is = some ([Exr f], G)) (h : ∀ a, C P code Q n c L (f a ++ G)) : C P code Q n c L H :=
  ⟨fun hn a w he hs => by obtain ⟨x, hs⟩ := S.open_ (hs.perm (pickR_spec hp)); exact (h x).go hn a w he hs⟩
theorem W_open {α : Type} {f : α → List Res} {G : List Res} (is : List Nat) (hp : pickR H is = some ([Exr f], G)) (h : ∀ a, W P ops Q rest n c L (f a ++ G)) : W P ops Q rest n c L H :=
  ⟨fun hn a w he hs => by obtain ⟨x, hs⟩ := S.open_ (hs.perm (pickR_spec hp)); exact (h x).go hn a w he hs⟩
theorem N_open {α : Type} {f : α → List Res} {G : List Res} (is : List Nat) (hp : pickR H is = some ([Exr f], G)) (h : ∀ a, N Q n c L (f a ++ G)) : N Q n c L H :=
  ⟨fun hn a w he hs => by obtain ⟨x, hs⟩ := S.open_ (hs.perm (pickR_spec hp)); exact (h x).go hn a w he hs⟩
theorem C_pack {code} {A G : List Res} {R : Res} (is : List Nat) (hp : pickR H is = some (A, G)) (hm : ∀ h, Star A h → R h) (h : C P code Q n c L (R :: G)) : C P code Q n c L H :=
  ⟨fun hn a w he hs => h.go hn a w he ((hs.perm (pickR_spec hp)).map fun _ s => Star_cons_map hm s)⟩
theorem W_pack {A G : List Res} {R : Res} (is : List Nat) (hp : pickR H is = some (A, G)) (hm : ∀ h, Star A h → R h) (h : W P ops Q rest n c L (R :: G)) : W P ops Q rest n c L H :=
  ⟨fun hn a w he hs => h.go hn a w he ((hs.perm (pickR_spec hp)).map fun _ s => Star_cons_map hm s)⟩
theorem N_pack {A G : List Res} {R : Res} (is : List Nat) (hp : pickR H is = some (A, G)) (hm : ∀ h, Star A h → R h) (h : N Q n c L (R :: G)) : N Q n c L H :=
  ⟨fun hn a w he hs => h.go hn a w he ((hs.perm (pickR_spec hp)).map fun _ s => Star_cons_map hm s)⟩
theorem Rt_pack {A G : List Res} {R : Res} (is : List Nat) (hp : pickR H is = some (A, G)) (hm : ∀ h, Star A h → R h) (h : Rt Q n c L (R :: G)) : Rt Q n c L H :=
  ⟨fun hn a w he hs => h.go hn a w he ((hs.perm (pickR_spec hp)).map fun _ s => Star_cons_map hm s)⟩
end
end Go.Hb
