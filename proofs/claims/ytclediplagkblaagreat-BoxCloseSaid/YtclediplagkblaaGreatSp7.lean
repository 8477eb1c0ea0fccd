/- A part of the proofs of this seat: rules of a logic of owned and of lent memory, what functions compute, or their walks. -/
import Derived.Test.YtclediplagkblaaGreatSp6
set_option linter.unusedVariables false
set_option linter.unusedSimpArgs false
namespace Go.Hb
open Go
def footOf (bs : List UInt8) : List UInt8 := bs.drop (bs.length - 12)
def ow1 (bs : List UInt8) : UInt32 × Rs := Rs.word (footOf bs) ⟨0, 0⟩
def ow2 (bs : List UInt8) : UInt32 × Rs := Rs.word (footOf bs) (ow1 bs).2
def oAt (bs : List UInt8) : Nat := (ow1 bs).1.toNat
def oN (bs : List UInt8) : Nat := (ow2 bs).1.toNat
def oBad (bs : List UInt8) : Bool := decide ((oAt bs : Int) < 6) || decide ((bs.length : Int) < (oN bs : Int)) || !decide ((oAt bs : Int) + (oN bs : Int) + 12 = (bs.length : Int))
def oBody (bs : List UInt8) : List UInt8 := (bs.drop (oAt bs)).take (oN bs)
def chainGo : List Ent → Int → Option Int
  | [], z => some z
  | e :: l, z => if e.at_ ≠ z then none else chainGo l (z + e.sz)
def openEnd (bs : List UInt8) (a : Int) : Int × List Ent :=
  let r := indexTake (oBody bs)
  if r.1 ≠ 0 then (r.1, []) else if min (max a 0) 1000 < (r.2.length : Int) then (7, []) else
  if chainGo r.2 6 ≠ some (oAt bs : Int) then (4, []) else (0, r.2)
def openR (bs : List UInt8) (a b : Int) : Int × List Ent :=
  if min (max b 0) 1048576 < (bs.length : Int) then (6, []) else if bs.length < 18 then (3, []) else if bs.take 6 ≠ magic then (16, []) else
  if crcRight (footOf bs) = false then (10, []) else if oBad bs = true then (4, []) else openEnd bs a
theorem indexTake_chk {bs} (h : (indexTake bs).1 = 0) : indexChk (indexTake bs).2 = 0 := by
  unfold indexTake at h ⊢
  split at h
  · cases h
  · split at h
    · cases h
    · rename_i h1 h2
      rw [if_neg h1, if_neg h2]
      unfold takeBody at h ⊢
      split at h
      · rename_i h3; exact absurd h h3
      · split at h
        · rename_i h3 h4; exact absurd h h4
        · rename_i h3 h4; rw [if_neg h3, if_neg h4]; simpa using h4
structure OG where
  k : Nat
  z : Int
structure OGI (es : List Ent) (g : OG) : Prop where
  le : g.k ≤ es.length
  b0 : 0 ≤ g.z
  b1 : g.z ≤ 1048576 * ((g.k : Int) + 1)
  eq : chainGo (es.drop g.k) g.z = chainGo es 6
theorem OGI.init (es : List Ent) : OGI es ⟨0, 6⟩ := ⟨Nat.zero_le _, by decide, by decide, rfl⟩
theorem OGI.err {es g e} (h : OGI es g) (he : es[g.k]? = some e) (hz : e.at_ ≠ g.z) : chainGo es 6 = none := by
  obtain ⟨hk, rfl⟩ := List.getElem?_eq_some_iff.1 he
  rw [← h.eq, List.drop_eq_getElem_cons hk, chainGo, if_pos hz]
theorem OGI.step {es g e} (h : OGI es g) (he : es[g.k]? = some e) (hz : e.at_ = g.z) (h1 : 1 ≤ e.sz) (h2 : e.sz ≤ 1048576) : OGI es ⟨g.k + 1, g.z + e.sz⟩ := by
  obtain ⟨hk, rfl⟩ := List.getElem?_eq_some_iff.1 he
  have hb0 := h.b0; have hb1 := h.b1
  refine ⟨hk, by simp only []; omega, by simp only []; omega, ?_⟩
  rw [← h.eq, List.drop_eq_getElem_cons hk]
  conv => rhs; rw [chainGo, if_neg (by simp [hz])]
theorem OGI.end_ {es g} (h : OGI es g) (hk : g.k = es.length) : chainGo es 6 = some g.z := by rw [← h.eq, hk, List.drop_length]; rfl
end Go.Hb
