/- A part of the proofs of this seat: rules of a logic of owned and of lent memory, what functions compute, or their walks. -/
import Derived.Test.YtclediplagkblaaGreatSp5
set_option linter.unusedVariables false
set_option linter.unusedSimpArgs false
namespace Go.Hb
open Go
def takeGo (bs : List UInt8) : Nat → Rs → Int → List Ent → Rs × List Ent
  | 0, s, _, es => (s, es)
  | k + 1, s, at_, es =>
    if s.err ≠ 0 then (s, es) else
    let r1 := s.byte bs
    let r2 := r1.2.bytes bs r1.1.toNat
    let r3 := r2.2.uint bs 1048576
    takeGo bs k r3.2 (at_ + (r3.1.toNat : Int)) (es ++ [⟨r2.1, at_, (r3.1.toNat : Int)⟩])
def tk1 (bs : List UInt8) : UInt64 × Rs := Rs.uint bs ⟨0, 0⟩ 1000
def tk2 (bs : List UInt8) : UInt64 × Rs := if 0 < (tk1 bs).1 then Rs.uint bs (tk1 bs).2 1048576 else (0, (tk1 bs).2)
def tk3 (bs : List UInt8) : Rs × List Ent := takeGo bs (tk1 bs).1.toNat (tk2 bs).2 ((tk2 bs).1.toNat : Int) []
def takeBody (bs : List UInt8) : Int × List Ent :=
  if Rs.end_ bs (tk3 bs).1 ≠ 0 then (Rs.end_ bs (tk3 bs).1, []) else if indexChk (tk3 bs).2 ≠ 0 then (indexChk (tk3 bs).2, []) else (0, (tk3 bs).2)
def indexTake (bs : List UInt8) : Int × List Ent := if bs.length < 4 then (3, []) else if crcRight bs = false then (10, []) else takeBody (bs.take (bs.length - 4))
theorem Rs.uint_le {bs s most} : (Rs.uint bs s most).1 ≤ most := by
  unfold Rs.uint
  split
  · exact UInt64.zero_le
  · split
    · exact UInt64.zero_le
    · rename_i h; exact UInt64.not_lt.1 h
structure TG where
  s : Rs
  at_ : Int
  es : List Ent
  i : UInt64
  A : Option Addr
  cp : Nat
structure TGI (bs : List UInt8) (n : UInt64) (r : Rs × List Ent) (g : TG) : Prop where
  at_ : g.s.at_ ≤ bs.length
  le : g.i.toNat ≤ n.toNat
  len : g.es.length = g.i.toNat
  b0 : 0 ≤ g.at_
  b1 : g.at_ ≤ 1048576 * ((g.i.toNat : Int) + 1)
  eq : takeGo bs (n.toNat - g.i.toNat) g.s g.at_ g.es = r
abbrev TG.r1 (bs : List UInt8) (g : TG) := g.s.byte bs
abbrev TG.r2 (bs : List UInt8) (g : TG) := (g.r1 bs).2.bytes bs (g.r1 bs).1.toNat
abbrev TG.r3 (bs : List UInt8) (g : TG) := (g.r2 bs).2.uint bs 1048576
def TG.ent (bs : List UInt8) (g : TG) : Ent := ⟨(g.r2 bs).1, g.at_, ((g.r3 bs).1.toNat : Int)⟩
theorem TGI.init {bs n} {s : Rs} {at_ : Int} (hs : s.at_ ≤ bs.length) (h0 : 0 ≤ at_) (h1 : at_ ≤ 1048576) : TGI bs n (takeGo bs n.toNat s at_ []) ⟨s, at_, [], 0, none, 0⟩ := ⟨hs, Nat.zero_le _, rfl, h0, by simpa using h1, rfl⟩
theorem u64_succ {i n : UInt64} (h : i < n) : (i + 1).toNat = i.toNat + 1 := by
  have h1 := UInt64.lt_iff_toNat_lt.1 h
  have h2 := n.toNat_lt
  rw [UInt64.toNat_add]; simp; omega
theorem TGI.step {bs n r g} {A : Option Addr} {cp : Nat} (h : TGI bs n r g) (hi : g.i < n) (he : g.s.err = 0) : TGI bs n r ⟨(g.r3 bs).2, g.at_ + ((g.r3 bs).1.toNat : Int), g.es ++ [g.ent bs], g.i + 1, A, cp⟩ := by
  have h1 := UInt64.lt_iff_toNat_lt.1 hi
  have h2 := u64_succ hi
  have h3 : (g.r3 bs).1.toNat ≤ 1048576 := by have := Rs.uint_le (bs := bs) (s := (g.r2 bs).2) (most := 1048576); simpa [UInt64.le_iff_toNat_le] using this
  have hb0 := h.b0; have hb1 := h.b1
  refine ⟨Rs.uint_at (Rs.bytes_at (Rs.byte_at h.at_)), ?_, ?_, ?_, ?_, ?_⟩
  · simp only [h2]; omega
  · simp only [h2, List.length_append, List.length_singleton, h.len]
  · simp only []; omega
  · simp only [h2]; omega
  · rw [← h.eq]
    have : n.toNat - g.i.toNat = (n.toNat - (g.i + 1).toNat) + 1 := by omega
    rw [this]
    conv => rhs; rw [takeGo]
    rw [if_neg (by simp [he])]
    rfl
theorem TGI.end_ {bs n r g} (h : TGI bs n r g) (hi : ¬ (g.i < n ∧ g.s.err = 0)) : r = (g.s, g.es) := by
  rw [← h.eq]
  cases hk : n.toNat - g.i.toNat with
  | zero => rfl
  | succ k =>
    have : g.i < n := UInt64.lt_iff_toNat_lt.2 (by omega)
    rw [takeGo, if_pos (fun e => hi ⟨this, e⟩)]
theorem tk1_le (bs) : (tk1 bs).1.toNat ≤ 1000 := by have := Rs.uint_le (bs := bs) (s := ⟨0, 0⟩) (most := 1000); have := UInt64.le_iff_toNat_le.1 this; simpa [tk1] using this
theorem tk1_at (bs) : (tk1 bs).2.at_ ≤ bs.length := Rs.uint_at (Nat.zero_le _)
theorem tk2_le (bs) : (tk2 bs).1.toNat ≤ 1048576 := by
  unfold tk2
  split
  · have := Rs.uint_le (bs := bs) (s := (tk1 bs).2) (most := 1048576); simpa [UInt64.le_iff_toNat_le] using this
  · simp
theorem tk2_at (bs) : (tk2 bs).2.at_ ≤ bs.length := by
  unfold tk2
  split
  · exact Rs.uint_at (tk1_at bs)
  · exact tk1_at bs
theorem TGI.init' (bs) : TGI bs (tk1 bs).1 (tk3 bs) ⟨(tk2 bs).2, ((tk2 bs).1.toNat : Int), [], 0, none, 0⟩ := TGI.init (tk2_at bs) (by omega) (by have := tk2_le bs; omega)
theorem uint_le20 {bs s} : (Rs.uint bs s 1048576).1.toNat ≤ 1048576 := by have := Rs.uint_le (bs := bs) (s := s) (most := 1048576); simpa [UInt64.le_iff_toNat_le] using this
theorem tk2_pos {bs} (h : 0 < (tk1 bs).1) : tk2 bs = Rs.uint bs (tk1 bs).2 1048576 := by rw [tk2, if_pos h]
theorem tk2_zero {bs} (h : ¬ 0 < (tk1 bs).1) : tk2 bs = (0, (tk1 bs).2) := by rw [tk2, if_neg h]
end Go.Hb
