/- A part of the proofs of this seat: rules of a logic of owned and of lent memory, what functions compute, or their walks. -/
import Derived.Test.YtclediplagkblaaGreatSp9
set_option linter.unusedVariables false
set_option linter.unusedSimpArgs false
namespace Go.Hb
open Go
def notGt (x y : List UInt8) : Bool := Op.bytesLess x y || x == y
def gtAt (l : List Frm) : Nat → Bool
  | 0 => true
  | j + 1 => match l[j + 1]?, l[j]? with
    | some s, some s0 => !(notGt s.nm s0.nm)
    | _, _ => true
def rises (l : List Frm) : Nat → Bool
  | 0 => true
  | k + 1 => rises l k && gtAt l k
structure Frm.fine (f : Frm) : Prop where
  n1 : 1 ≤ f.nm.length
  n2 : f.nm.length ≤ 51
  kd : f.kd < 6
  pl : f.pl.length ≤ 50
theorem Frm.fine.chk {f : Frm} (h : f.fine) : f.chk = 0 := by
  have := h.n1; have := h.n2; have := h.pl
  have hk := h.kd
  unfold Frm.chk frameChk
  rw [if_neg (by omega), if_neg (by omega), if_neg (UInt8.not_le.2 hk), if_neg (by omega)]
theorem Frm.bytes_len (f : Frm) : f.bytes.length = f.nm.length + f.pl.length + 14 := frameB_length _ _ _
def entsOf (at_ : Nat) : List Frm → List Ent
  | [] => []
  | f :: l => ⟨f.nm, (at_ : Int), (f.bytes.length : Int)⟩ :: entsOf (at_ + f.bytes.length) l
def bytesOf (l : List Frm) : List UInt8 := l.flatMap Frm.bytes
theorem closeGo_fine {kk : Int} : ∀ (l : List Frm) (out : List UInt8) (es : List Ent), (∀ f ∈ l, f.fine) → (out.length : Int) + 115 * (l.length : Int) ≤ kk → closeGo kk l out es = closeEnd kk (out ++ bytesOf l) (es ++ entsOf out.length l)
  | [], out, es, _, _ => by simp [closeGo, bytesOf, entsOf]
  | f :: l, out, es, h, hk => by
    have hf := h f (List.mem_cons_self)
    have hl := f.bytes_len
    have h1 := hf.n2; have h2 := hf.pl
    simp only [List.length_cons] at hk
    rw [closeGo, if_neg (by simp [hf.chk]), if_neg (by omega)]
    rw [closeGo_fine l _ _ (fun g hg => h g (List.mem_cons_of_mem _ hg)) (by simp only [List.length_append]; omega)]
    simp [bytesOf, entsOf]
theorem entsOf_length (l : List Frm) : ∀ a, (entsOf a l).length = l.length := by
  induction l with
  | nil => intro a; rfl
  | cons f l ih => intro a; simp [entsOf, ih]
theorem bytesOf_length (l : List Frm) (h : ∀ f ∈ l, f.fine) : (bytesOf l).length ≤ 115 * l.length := by
  induction l with
  | nil => simp [bytesOf]
  | cons f l ih =>
    have := ih (fun g hg => h g (List.mem_cons_of_mem _ hg))
    have hf := h f List.mem_cons_self
    have hl := f.bytes_len
    have h1 := hf.n2; have h2 := hf.pl
    simp only [bytesOf, List.flatMap_cons, List.length_append, List.length_cons] at *
    omega
def okAfter : Option Frm → Frm → Bool
  | none, _ => true
  | some p, f => !(notGt f.nm p.nm)
def risesFrom (p : Option Frm) : List Frm → Bool
  | [] => true
  | f :: l => okAfter p f && risesFrom (some f) l
def prevF (l : List Frm) : Nat → Option Frm
  | 0 => none
  | j + 1 => l[j]?
theorem chkFrom_ents : ∀ (l : List Frm) (a : Nat) (p : Option Frm) (pe : Option Ent), (∀ f ∈ l, f.fine) → a + 115 * l.length ≤ 1048576 → (match p, pe with | none, none => True | some p, some pe => pe.nm = p.nm ∧ pe.at_ + pe.sz = a | _, _ => False) →
    chkFrom pe (entsOf a l) = if risesFrom p l then 0 else 8
  | [], _, p, pe, _, _, _ => by simp [entsOf, chkFrom, risesFrom]
  | f :: l, a, p, pe, h, hb, hp => by
    have hf := h f (List.mem_cons_self)
    have hl := f.bytes_len
    have h1 := hf.n2; have h2 := hf.pl; have h3 := hf.n1
    simp only [List.length_cons] at hb
    have ih := chkFrom_ents l (a + f.bytes.length) (some f) (some ⟨f.nm, (a : Int), (f.bytes.length : Int)⟩) (fun g hg => h g (List.mem_cons_of_mem _ hg)) (by omega) ⟨rfl, by simp⟩
    simp only [entsOf, chkFrom, risesFrom]
    have hc : ∀ z, Ent.chk ⟨f.nm, (a : Int), (f.bytes.length : Int)⟩ pe = z ↔ (if okAfter p f = true then (0 : Int) else 8) = z := by
      intro z
      unfold Ent.chk
      simp only []
      rw [if_neg (by omega), if_neg (by omega), if_neg (by omega), if_neg (by omega), if_neg (by omega), if_neg (by omega)]
      match p, pe, hp with
      | none, none, _ => simp [okAfter]
      | some p, some pe, hp =>
        simp only [hp.1]
        by_cases hg : (Op.bytesLess f.nm p.nm || f.nm == p.nm) = true
        · rw [if_pos hg]; simp [okAfter, notGt, hg]
        · rw [if_neg hg, if_neg (by rw [hp.2]; simp)]
          have hg' : notGt f.nm p.nm = false := by simpa [notGt] using hg
          simp [okAfter, hg']
    rw [ih]
    rw [(hc _).2 rfl]
    by_cases ha : okAfter p f = true <;> by_cases hb' : risesFrom (some f) l = true <;> simp [ha, hb']
theorem risesFrom_eq : ∀ (l : List Frm) (m : Nat), m ≤ l.length → (risesFrom (prevF l m) (l.drop m) && rises l m) = rises l l.length
  | l, m, hm => by
    induction hk : l.length - m generalizing m with
    | zero =>
      have : m = l.length := by omega
      subst this
      simp [risesFrom]
    | succ n ih =>
      have hlt : m < l.length := by omega
      have := ih (m + 1) (by omega) (by omega)
      rw [← this, List.drop_eq_getElem_cons hlt]
      simp only [risesFrom, rises]
      have e1 : l[m]? = some l[m] := List.getElem?_eq_getElem hlt
      have e4 : prevF l (m + 1) = some l[m] := e1
      have e2 : okAfter (prevF l m) l[m] = gtAt l m := by
        cases m with
        | zero => rfl
        | succ j =>
          have e3 : l[j]? = some l[j] := List.getElem?_eq_getElem (by omega)
          simp only [gtAt, e1, e3, prevF, okAfter]
      rw [e2, e4]
      cases gtAt l m <;> cases risesFrom (some l[m]) (l.drop (m + 1)) <;> simp
theorem closeLaw (l : List Frm) (h : ∀ f ∈ l, f.fine) (hl : l.length ≤ 10) : (closeB l 1000 1048576).1 = if rises l l.length then 0 else 8 := by
  unfold closeB
  rw [if_neg (by omega), closeGo_fine l _ _ h (by have : magic.length = 6 := rfl; omega)]
  have e := chkFrom_ents l magic.length none none h (by have : magic.length = 6 := rfl; omega) trivial
  have e2 := risesFrom_eq l 0 (Nat.zero_le _)
  simp only [List.drop_zero, rises, Bool.and_true, prevF] at e2
  rw [e2] at e
  have hi : indexChk ([] ++ entsOf magic.length l) = if rises l l.length then 0 else 8 := by
    rw [List.nil_append, indexChk, if_neg (by rw [entsOf_length]; omega), e]
  unfold closeEnd
  rw [hi]
  by_cases hr : rises l l.length = true
  · rw [hr]
    simp only [if_true, ne_eq, not_true_eq_false, if_false]
    rw [if_neg]
    have h1 := bytesOf_length l h
    have h2 : indexChk ([] ++ entsOf magic.length l) = 0 := by rw [hi, hr]; rfl
    have h3 := indexBody_length h2
    have h4 : (indexB ([] ++ entsOf magic.length l)).length = (indexBody ([] ++ entsOf magic.length l)).length + 4 := crcB_length _
    have h5 : ∀ a b, (footB a b).length = 12 := fun a b => by simp [footB, crcB_length, wordB_length]
    have : magic.length = 6 := rfl
    simp only [List.length_append, h5] at *
    omega
  · have hr' : rises l l.length = false := by simpa using hr
    rw [hr']; simp
theorem Sm.fine {s : Sm} (h1 : s.nm.length ≤ 50) (h2 : s.pl.length ≤ 50) : s.frm.fine := by
  refine ⟨by simp [Sm.frm], by simp [Sm.frm]; omega, ?_, h2⟩
  rw [UInt8.lt_iff_toNat_lt]
  simp [Sm.frm]; omega
abbrev smF (l : List Sm) (k : Nat) : List TV := ((l.take k).map Sm.frm).flatMap Frm.tv
theorem smF_succ {l : List Sm} {k : Nat} {s : Sm} (h : l[k]? = some s) : smF l (k + 1) = smF l k ++ s.frm.tv := by simp [smF, List.take_add_one, h]
theorem smF_get {l : List Sm} {k j : Nat} {s : Sm} (h : l[j]? = some s) (hj : j < k) : ((l.take k).map Sm.frm)[j]? = some s.frm := by simp [hj, h]
theorem smMap {l : List Sm} {j : Nat} {s : Sm} (h : l[j]? = some s) : (l.map Sm.frm)[j]? = some s.frm := by simp [h]
end Go.Hb
