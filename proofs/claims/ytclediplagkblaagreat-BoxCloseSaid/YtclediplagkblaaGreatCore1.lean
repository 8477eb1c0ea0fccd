/- A part of the proofs of this seat: rules of a logic of owned and of lent memory, what functions compute, or their walks. -/
import Derived.WalkKit
import Derived.OrdersHeld
import Derived.Laws.AppendOwn
import Derived.Deep.LoopGhost
set_option linter.unusedVariables false
set_option linter.unusedSimpArgs false
namespace Go.Hb
open Go
inductive TV where
  | b (x : Bool) | u8 (x : UInt8) | u16 (x : UInt16) | u32 (x : UInt32) | u64 (x : UInt64) | i64 (x : Int) | f (x : Nat)
  | str (s : List UInt8) | nilp | ptr (g j : Nat) | el (A : Option Addr) (k : Nat) | sl (A : Option Addr) (n c : Nat) | raw (v : Value)
  | agg (l : List TV) | tup (l : List TV) | un
mutual
def TV.v : TV → Value
  | .b x => .bool x | .u8 x => .int .u8 x.toNat | .u16 x => .int .u16 x.toNat | .u32 x => .int .u32 x.toNat | .u64 x => .int .u64 x.toNat
  | .i64 x => .int .i64 x | .f x => .float .f64 x | .str s => .string ⟨s.toArray⟩
  | .nilp => .pointer none | .ptr g j => .pointer (some ⟨g, j, none⟩) | .el A k => .pointer (A.map fun a => a.add k) | .sl A n c => .slice A n c | .raw v => v
  | .agg l => .agg (TV.vs l).toArray | .tup l => .tuple (TV.vs l).toArray | .un => undef
def TV.vs : List TV → List Value
  | [] => [] | x :: l => x.v :: TV.vs l
end
theorem TV.vs_map (l : List TV) : TV.vs l = l.map TV.v := by
  induction l with
  | nil => simp [TV.vs]
  | cons x l ih => simp [TV.vs, ih]
def look : List (Nat × TV) → Nat → Option TV
  | [], _ => none
  | (j, x) :: L, i => bif Nat.beq j i then some x else look L i
structure E (n : Nat) (L : List (Nat × TV)) (a : Act) : Prop where
  defers : a.defers = []
  size : a.tmps.size = n
  get : ∀ i x, look L i = some x → a.tmps[i]? = some x.v
theorem E.put {n L a} (h : E n L a) {d : Nat} {x : TV} (hd : d < n) : E n ((d, x) :: L) (a.put (some d) x.v) := by
  refine ⟨h.defers, by simp [Act.put, h.size], fun i y hy => ?_⟩
  simp only [look] at hy
  cases hdi : Nat.beq d i with
  | true =>
    simp only [hdi, cond_true, Option.some.injEq] at hy
    subst hy
    have : d = i := Nat.eq_of_beq_eq_true hdi
    subst this
    simp [Act.put, h.size, hd]
  | false =>
    simp only [hdi, cond_false] at hy
    have hne : d ≠ i := fun e => by subst e; simp at hdi
    have := h.get i y hy
    simp only [Act.put, Array.getElem?_setIfInBounds, hne, if_false]
    exact this
theorem E.sub {n L L' a} (h : E n L a) (hs : ∀ i x, look L' i = some x → look L i = some x) : E n L' a :=
  ⟨h.defers, h.size, fun i x hx => h.get i x (hs i x hx)⟩
def cstO : Value → Option TV
  | .bool x => some (.b x)
  | .int .u8 (.ofNat n) => match Nat.ble n 255 with | true => some (.u8 (UInt8.ofNat n)) | false => some (.raw (.int .u8 (.ofNat n)))
  | .int .u16 (.ofNat n) => match Nat.ble n 65535 with | true => some (.u16 (UInt16.ofNat n)) | false => some (.raw (.int .u16 (.ofNat n)))
  | .int .u32 (.ofNat n) => match Nat.ble n 4294967295 with | true => some (.u32 (UInt32.ofNat n)) | false => some (.raw (.int .u32 (.ofNat n)))
  | .int .u64 (.ofNat n) => match Nat.ble n 18446744073709551615 with | true => some (.u64 (UInt64.ofNat n)) | false => some (.raw (.int .u64 (.ofNat n)))
  | .int .i64 z => some (.i64 z)
  | .float .f64 x => some (.f x)
  | .string s => some (.str s.data.toList)
  | .pointer none => some .nilp
  | .slice a n c => some (.sl a n c)
  | v => some (.raw v)
theorem cstO_v {v : Value} {x : TV} (h : cstO v = some x) : x.v = v := by
  unfold cstO at h
  split at h
  case h_2 n =>
    cases hb : Nat.ble n 255 with
    | true => have := Nat.le_of_ble_eq_true hb; simp only [hb, Option.some.injEq] at h; subst h; simp [TV.v, UInt8.toNat_ofNat', Nat.mod_eq_of_lt (show n < 256 by omega)]
    | false => simp only [hb, Option.some.injEq] at h; subst h; rfl
  case h_3 n =>
    cases hb : Nat.ble n 65535 with
    | true => have := Nat.le_of_ble_eq_true hb; simp only [hb, Option.some.injEq] at h; subst h; simp [TV.v, UInt16.toNat_ofNat', Nat.mod_eq_of_lt (show n < 65536 by omega)]
    | false => simp only [hb, Option.some.injEq] at h; subst h; rfl
  case h_4 n =>
    cases hb : Nat.ble n 4294967295 with
    | true => have := Nat.le_of_ble_eq_true hb; simp only [hb, Option.some.injEq] at h; subst h; simp [TV.v, UInt32.toNat_ofNat', Nat.mod_eq_of_lt (show n < 4294967296 by omega)]
    | false => simp only [hb, Option.some.injEq] at h; subst h; rfl
  case h_5 n =>
    cases hb : Nat.ble n 18446744073709551615 with
    | true => have := Nat.le_of_ble_eq_true hb; simp only [hb, Option.some.injEq] at h; subst h; simp [TV.v, UInt64.toNat_ofNat', Nat.mod_eq_of_lt (show n < 18446744073709551616 by omega)]
    | false => simp only [hb, Option.some.injEq] at h; subst h; rfl
  all_goals (simp only [Option.some.injEq] at h; subst h; rfl)
def ev (L : List (Nat × TV)) : Operand → Option TV
  | .tmp i => look L i
  | .const v => cstO v
  | .func f => some (.raw (.func (.func f) #[] #[]))
  | .global g => some (.ptr g 0)
theorem ev_spec {n L a} (h : E n L a) {p : Operand} {x : TV} (hx : ev L p = some x) : a.eval p = x.v := by
  cases p with
  | tmp i =>
    have := h.get i x hx
    simp [Act.eval, Array.getD_eq_getD_getElem?, this]
  | const v => simp only [ev] at hx; simp [Act.eval, cstO_v hx]
  | global g => simp [ev] at hx; subst hx; simp [Act.eval, TV.v]
  | func f => simp [ev] at hx; subst hx; simp [Act.eval, TV.v]
def evs (L : List (Nat × TV)) : List Operand → Option (List TV)
  | [] => some []
  | p :: ps => match ev L p, evs L ps with
    | some x, some xs => some (x :: xs)
    | _, _ => none
theorem evs_spec {n L a} (h : E n L a) : ∀ {ps : List Operand} {xs : List TV}, evs L ps = some xs → ps.map a.eval = TV.vs xs := by
  intro ps
  induction ps with
  | nil => intro xs hx; simp [evs] at hx; subst hx; simp [TV.vs]
  | cons p ps ih =>
    intro xs hx
    simp only [evs] at hx
    split at hx
    · rename_i x ys h1 h2
      simp at hx; subst hx
      simp [TV.vs, ev_spec h h1, ih h2]
    · simp at hx
abbrev Hp := Nat → Option Obj
def Hp.le (o o' : Hp) : Prop := ∀ k x, o k = some x → o' k = some x
def Hp.dj (o o' : Hp) : Prop := ∀ k, o k = none ∨ o' k = none
def inW (h : Hp) (w : World) : Prop := ∀ k x, h k = some x → w.heap[k]? = some x
abbrev Res := Hp → Prop
def Star : List Res → Hp → Prop
  | [], _ => True
  | r :: rs, h => ∃ h1 h2, Hp.dj h1 h2 ∧ h1.le h ∧ h2.le h ∧ r h1 ∧ Star rs h2
theorem Hp.le_refl (o : Hp) : o.le o := fun _ _ h => h
theorem Hp.le_trans {a b c : Hp} (h : a.le b) (h' : b.le c) : a.le c := fun k x hx => h' k x (h k x hx)
theorem inW.mono {h h' : Hp} {w} (hw : inW h' w) (hl : h.le h') : inW h w := fun k x hx => hw k x (hl k x hx)
theorem Hp.dj.symm {a b : Hp} (h : a.dj b) : b.dj a := fun k => (h k).symm
theorem Hp.dj.mono {a b a' b' : Hp} (h : a.dj b) (ha : a'.le a) (hb : b'.le b) : a'.dj b' := fun k => by
  rcases h k with h | h
  · left
    cases e : a' k with
    | none => rfl
    | some x => have := ha k x e; rw [h] at this; cases this
  · right
    cases e : b' k with
    | none => rfl
    | some x => have := hb k x e; rw [h] at this; cases this
def Hp.or (a b : Hp) : Hp := fun k => match a k with | some x => some x | none => b k
theorem Hp.le_or_left (a b : Hp) : a.le (a.or b) := fun k x h => by simp [Hp.or, h]
theorem Hp.le_or_right {a b : Hp} (h : a.dj b) : b.le (a.or b) := fun k x hx => by
  rcases h k with h | h
  · simp [Hp.or, h, hx]
  · rw [h] at hx; cases hx
theorem Hp.or_le {a b c : Hp} (h1 : a.le c) (h2 : b.le c) : (a.or b).le c := fun k x hx => by
  unfold Hp.or at hx
  split at hx
  · rename_i y hy; cases hx; exact h1 k _ hy
  · exact h2 k x hx
theorem Hp.or_dj {a b c : Hp} (h1 : a.dj c) (h2 : b.dj c) : (a.or b).dj c := fun k => by
  rcases h1 k with h | h
  · rcases h2 k with h' | h'
    · left; simp [Hp.or, h, h']
    · right; exact h'
  · right; exact h
theorem Hp.dj_or {a b c : Hp} (h1 : a.dj b) (h2 : a.dj c) : a.dj (b.or c) := (Hp.or_dj h1.symm h2.symm).symm
theorem inW.or {a b : Hp} {w} (h1 : inW a w) (h2 : inW b w) : inW (a.or b) w := fun k x hx => by
  unfold Hp.or at hx
  split at hx
  · rename_i y hy; cases hx; exact h1 k _ hy
  · exact h2 k x hx
theorem Star.mono {H : List Res} : ∀ {h h' : Hp}, Star H h → h.le h' → Star H h' := by
  cases H with
  | nil => intros; trivial
  | cons r rs =>
    intro h h' ⟨h1, h2, d, l1, l2, hr, hs⟩ hl
    exact ⟨h1, h2, d, Hp.le_trans l1 hl, Hp.le_trans l2 hl, hr, hs⟩
theorem Star.append {A B : List Res} {h : Hp} : Star (A ++ B) h → ∃ h1 h2, Hp.dj h1 h2 ∧ h1.le h ∧ h2.le h ∧ Star A h1 ∧ Star B h2 := by
  induction A generalizing h with
  | nil => intro hs; exact ⟨fun _ => none, h, fun _ => .inl rfl, fun _ _ e => (by cases e), Hp.le_refl _, trivial, hs⟩
  | cons r A ih =>
    intro ⟨h1, h2, d, l1, l2, hr, hs⟩
    obtain ⟨a, b, d', la, lb, sa, sb⟩ := ih hs
    refine ⟨h1.or a, b, Hp.or_dj (d.mono (Hp.le_refl _) lb) d', Hp.or_le l1 (Hp.le_trans la l2), Hp.le_trans lb l2, ⟨h1, a, d.mono (Hp.le_refl _) la, Hp.le_or_left _ _, Hp.le_or_right (d.mono (Hp.le_refl _) la), hr, sa⟩, sb⟩
theorem Star.join {A B : List Res} {h a b : Hp} (d : a.dj b) (la : a.le h) (lb : b.le h) (sa : Star A a) (sb : Star B b) : Star (A ++ B) h := by
  induction A generalizing a h with
  | nil => exact sb.mono lb
  | cons r A ih =>
    obtain ⟨h1, h2, d', l1, l2, hr, hs⟩ := sa
    refine ⟨h1, h2.or b, Hp.dj_or d' (d.mono l1 (Hp.le_refl _)), Hp.le_trans l1 la, Hp.or_le (Hp.le_trans l2 la) lb, hr, ?_⟩
    exact ih (d.mono l2 (Hp.le_refl _)) (Hp.le_or_left _ _) (Hp.le_or_right (d.mono l2 (Hp.le_refl _))) hs
theorem Star.perm {A B : List Res} (p : A.Perm B) : ∀ {h : Hp}, Star A h → Star B h := by
  induction p with
  | nil => intro h hs; exact hs
  | cons x _ ih => intro h ⟨h1, h2, d, l1, l2, hr, hs⟩; exact ⟨h1, h2, d, l1, l2, hr, ih hs⟩
  | swap x y l =>
    intro h ⟨h1, h2, d, l1, l2, hr, ⟨h3, h4, d', l3, l4, hr', hs⟩⟩
    exact ⟨h3, h1.or h4, Hp.dj_or (d.symm.mono l3 (Hp.le_refl _)) d', Hp.le_trans l3 l2, Hp.or_le l1 (Hp.le_trans l4 l2), hr', ⟨h1, h4, d.mono (Hp.le_refl _) l4, Hp.le_or_left _ _, Hp.le_or_right (d.mono (Hp.le_refl _) l4), hr, hs⟩⟩
  | trans _ _ ih1 ih2 => intro h hs; exact ih2 (ih1 hs)
structure Cx where
  w0 : World
  o : Hp
structure Mt (w0 w : World) : Prop where
  os : w.os = w0.os
  tape : w.tape = w0.tape
  output : w.output = w0.output
  size : w0.heap.size ≤ w.heap.size
theorem Mt.refl (w : World) : Mt w w := ⟨rfl, rfl, rfl, Nat.le_refl _⟩
theorem Mt.trans {a b c : World} (h : Mt a b) (h' : Mt b c) : Mt a c := ⟨h'.os.trans h.os, h'.tape.trans h.tape, h'.output.trans h.output, Nat.le_trans h.size h'.size⟩
def S (c : Cx) (H : List Res) (w : World) : Prop := Mt c.w0 w ∧ inW c.o w ∧ ∃ h, inW h w ∧ Hp.dj c.o h ∧ Star H h
structure Cx.le (c c' : Cx) : Prop where
  w0 : c'.w0 = c.w0
  o : c.o.le c'.o
theorem Cx.le_refl (c : Cx) : c.le c := ⟨rfl, Hp.le_refl _⟩
theorem S.perm {c H H' w} (h : S c H w) (p : H.Perm H') : S c H' w := by
  obtain ⟨m, ho, hh, i, d, s⟩ := h
  exact ⟨m, ho, hh, i, d, s.perm p⟩
theorem S.drop {c r H w} (h : S c (r :: H) w) : S c H w := by
  obtain ⟨m, ho, hh, i, d, h1, h2, d', l1, l2, hr, s⟩ := h
  exact ⟨m, ho, h2, i.mono l2, d.mono (Hp.le_refl _) l2, s⟩
theorem S.dropAll {c H H' w} (h : S c (H ++ H') w) : S c H' w := by
  induction H with
  | nil => exact h
  | cons r H ih => exact ih h.drop
theorem S.keep {c H H' w} (h : S c (H ++ H') w) : S c H w := (h.perm List.perm_append_comm).dropAll
theorem S.lend {c H H' w} (h : S c (H ++ H') w) : ∃ hr, Star H' hr ∧ Hp.dj c.o hr ∧ S ⟨c.w0, c.o.or hr⟩ H w ∧ ∀ H'' w', S ⟨c.w0, c.o.or hr⟩ H'' w' → S c (H'' ++ H') w' := by
  obtain ⟨m, ho, hh, i, d, s⟩ := h
  obtain ⟨a, b, d', la, lb, sa, sb⟩ := s.append
  have dob : Hp.dj c.o b := d.mono (Hp.le_refl _) lb
  refine ⟨b, sb, dob, ⟨m, ho.or (i.mono lb), a, i.mono la, ?_, sa⟩, ?_⟩
  · exact Hp.or_dj (d.mono (Hp.le_refl _) la) d'.symm
  · intro H'' w' ⟨m', ho', hh', i', d'', s'⟩
    have hob : inW b w' := ho'.mono (Hp.le_or_right dob)
    have dbh : Hp.dj b hh' := d''.mono (Hp.le_or_right dob) (Hp.le_refl _)
    exact ⟨m', ho'.mono (Hp.le_or_left _ _), hh'.or b, i'.or hob, Hp.dj_or (d''.mono (Hp.le_or_left _ _) (Hp.le_refl _)) dob, Star.join dbh.symm (Hp.le_or_left _ _) (Hp.le_or_right dbh.symm) s' sb⟩
theorem S.weaken {c c' H w} (hc : c.le c') (h : S c' H w) : S c H w := by
  obtain ⟨m, ho, hh, i, d, s⟩ := h
  refine ⟨?_, ho.mono hc.o, hh, i, d.mono hc.o (Hp.le_refl _), s⟩
  rw [← hc.w0]; exact m
theorem S.freeze {c H H' w} (h : S c (H ++ H') w) : ∃ c', c.le c' ∧ (∃ hr, hr.le c'.o ∧ Star H hr) ∧ S c' H' w := by
  obtain ⟨hr, s, d, h1, _⟩ := (h.perm List.perm_append_comm).lend
  exact ⟨⟨c.w0, c.o.or hr⟩, ⟨rfl, Hp.le_or_left _ _⟩, ⟨hr, Hp.le_or_right d, s⟩, h1⟩
end Go.Hb
