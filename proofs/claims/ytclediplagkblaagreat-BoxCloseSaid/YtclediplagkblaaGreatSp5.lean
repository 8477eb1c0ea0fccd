/- A part of the proofs of this seat: rules of a logic of owned and of lent memory, what functions compute, or their walks. -/
import Derived.Test.YtclediplagkblaaGreatSp4
set_option linter.unusedVariables false
set_option linter.unusedSimpArgs false
namespace Go.Hb
open Go
def crcRight (bs : List UInt8) : Bool := if bs.length < 4 then false else bs.drop (bs.length - 4) == wordB (crcSum (bs.take (bs.length - 4)))
theorem drop4 {bs : List UInt8} {b0 b1 b2 b3 : UInt8} {k : Nat} (hk : bs.length = k + 4) (h0 : bs[k]? = some b0) (h1 : bs[k + 1]? = some b1) (h2 : bs[k + 2]? = some b2) (h3 : bs[k + 3]? = some b3) : bs.drop k = [b0, b1, b2, b3] := by
  apply List.ext_getElem?
  intro i
  rw [List.getElem?_drop]
  match i with
  | 0 => simpa using h0
  | 1 => simpa using h1
  | 2 => simpa using h2
  | 3 => simpa using h3
  | i + 4 => rw [List.getElem?_eq_none (by omega), List.getElem?_eq_none (by simp)]
theorem crcRight_eq {bs : List UInt8} {b0 b1 b2 b3 : UInt8} (hk : 4 ≤ bs.length) (h0 : bs[bs.length - 4]? = some b0) (h1 : bs[bs.length - 4 + 1]? = some b1) (h2 : bs[bs.length - 4 + 2]? = some b2) (h3 : bs[bs.length - 4 + 3]? = some b3) :
    crcRight bs = ((b0 == (crcSum (bs.take (bs.length - 4))).toUInt8) && ((b1 == (shr32 (crcSum (bs.take (bs.length - 4))) 8).toUInt8) && ((b2 == (shr32 (crcSum (bs.take (bs.length - 4))) 16).toUInt8) && (b3 == (shr32 (crcSum (bs.take (bs.length - 4))) 24).toUInt8)))) := by
  unfold crcRight
  rw [if_neg (by omega), drop4 (by omega) h0 h1 h2 h3, wordB]
  simp [List.cons_beq_cons]
structure Rs where
  at_ : Nat
  err : Int
def Rs.fail (s : Rs) (e : Int) : Rs := if s.err = 0 then ⟨s.at_, e⟩ else s
def Rs.left (bs : List UInt8) (s : Rs) : Nat := if s.err ≠ 0 then 0 else bs.length - s.at_
def Rs.byte (bs : List UInt8) (s : Rs) : UInt8 × Rs := if s.left bs = 0 then (0, s.fail 3) else (bs[s.at_]?.getD 0, ⟨s.at_ + 1, s.err⟩)
def Rs.bytes (bs : List UInt8) (s : Rs) (n : Nat) : List UInt8 × Rs := if s.left bs < n then ([], s.fail 3) else if n = 0 then ([], s) else ((bs.drop s.at_).take n, ⟨s.at_ + n, s.err⟩)
def uintBad (sh : Nat) (b : UInt8) : Bool := (decide (sh = 63) && decide (1 < b)) || (decide (0 < sh) && decide (b = 0))
def Rs.uintRound (bs : List UInt8) (sh : Nat) (s : Rs) : UInt8 × Rs := let r := s.byte bs; (r.1, if uintBad sh r.1 then r.2.fail 4 else r.2)
def Rs.uintGo (bs : List UInt8) : Nat → Rs → UInt64 → Option UInt64 × Rs
  | f, s, n =>
    let r := s.uintRound bs (63 - 7 * f)
    if r.2.err ≠ 0 then (none, r.2) else
    if r.1 < 128 then (some (n ||| shl64 (r.1 &&& 127).toUInt64 (63 - 7 * f)), r.2) else
    match f with
    | 0 => (none, r.2)
    | f + 1 => Rs.uintGo bs f r.2 (n ||| shl64 (r.1 &&& 127).toUInt64 (63 - 7 * (f + 1)))
def Rs.uint (bs : List UInt8) (s : Rs) (most : UInt64) : UInt64 × Rs :=
  match s.uintGo bs 9 0 with
  | (none, s') => (0, s')
  | (some n, s') => if most < n then (0, s'.fail 7) else (n, s')
def Rs.end_ (bs : List UInt8) (s : Rs) : Int := if s.err = 0 ∧ s.at_ < bs.length then 15 else s.err
def unword (b0 b1 b2 b3 : UInt8) : UInt32 := b0.toUInt32 ||| shl32 b1.toUInt32 8 ||| shl32 b2.toUInt32 16 ||| shl32 b3.toUInt32 24
def Rs.word (bs : List UInt8) (s : Rs) : UInt32 × Rs :=
  match s.bytes bs 4 with
  | ([b0, b1, b2, b3], s') => (unword b0 b1 b2 b3, s')
  | (_, s') => (0, s')
abbrev Rdr (g : Nat) (A : Option Addr) (cp : Nat) (bs : List UInt8) (s : Rs) : Res := Blk g 224 [.sl A bs.length cp, .i64 s.at_, .i64 s.err]
theorem Rs.fail_at (s : Rs) (e) : (s.fail e).at_ = s.at_ := by unfold Rs.fail; split <;> rfl
theorem Rs.byte_at {bs s} (h : s.at_ ≤ bs.length) : (Rs.byte bs s).2.at_ ≤ bs.length := by
  unfold Rs.byte
  split
  · rw [Rs.fail_at]; exact h
  · rename_i h0
    unfold Rs.left at h0
    split at h0 <;> simp at h0 ⊢; omega
theorem Rs.bytes_at {bs s n} (h : s.at_ ≤ bs.length) : (Rs.bytes bs s n).2.at_ ≤ bs.length := by
  unfold Rs.bytes
  split
  · rw [Rs.fail_at]; exact h
  · split
    · exact h
    · rename_i h0 h1
      unfold Rs.left at h0
      split at h0 <;> simp at h0 ⊢ <;> omega
def Rs.bytesA (A : Option Addr) (bs : List UInt8) (s : Rs) (m : Nat) : Option Addr := if s.left bs < m then none else if m = 0 then none else cutA A s.at_ (s.at_ + m) 1
theorem Rs.left_le {bs s} : Rs.left bs s ≤ bs.length - s.at_ := by unfold Rs.left; split <;> omega
theorem Rs.bytes_len {bs s m} (h : ¬ Rs.left bs s < m) : (Rs.bytes bs s m).1.length = m := by
  have := Rs.left_le (bs := bs) (s := s)
  unfold Rs.bytes
  rw [if_neg h]
  split
  · rename_i h0; subst h0; rfl
  · simp; omega
theorem Rs.bytes_RS {o : Hp} {A : Option Addr} {cp : Nat} {bs : List UInt8} {s : Rs} (m : Nat) (hR : RS o 1 A bs.length cp (bs.map .u8)) (hat : s.at_ ≤ bs.length) :
    RS o 1 (s.bytesA A bs m) (s.bytes bs m).1.length (s.bytes bs m).1.length ((s.bytes bs m).1.map .u8) := by
  have hl := Rs.left_le (bs := bs) (s := s)
  unfold Rs.bytesA
  by_cases h : s.left bs < m
  · rw [if_pos h]; unfold Rs.bytes; rw [if_pos h]; exact RS.nil _ _ _ (by simp [maxLen])
  · rw [if_neg h]
    rw [Rs.bytes_len h]
    unfold Rs.bytes
    rw [if_neg h]
    by_cases h0 : m = 0
    · subst h0; exact RS.nil _ _ _ (by simp [maxLen])
    · rw [if_neg h0, if_neg h0]
      have hc := hR.cap
      have := hR.cut (lo := s.at_) (hi := s.at_ + m) (mx := s.at_ + m) (by omega) (by omega) (by omega) (by omega)
      simp only [Nat.mul_one, Nat.add_sub_cancel_left] at this
      simpa [List.map_take, List.map_drop] using this
theorem list_four : ∀ {l : List UInt8}, l.length = 4 → ∃ a b c d, l = [a, b, c, d]
  | [a, b, c, d], _ => ⟨a, b, c, d, rfl⟩
theorem Rs.bytes_len_le {bs s m} : (Rs.bytes bs s m).1.length ≤ m := by
  by_cases h : Rs.left bs s < m
  · unfold Rs.bytes; rw [if_pos h]; simp
  · rw [Rs.bytes_len h]; exact Nat.le_refl _
theorem Rs.four {bs s} (h : ¬ ((Rs.bytes bs s 4).1.length : Int) < 4) : ∃ a b c d, (Rs.bytes bs s 4).1 = [a, b, c, d] := list_four (by have := Rs.bytes_len_le (bs := bs) (s := s) (m := 4); omega)
theorem Rs.word_four {bs s b0 b1 b2 b3} (h : (Rs.bytes bs s 4).1 = [b0, b1, b2, b3]) : Rs.word bs s = (unword b0 b1 b2 b3, (Rs.bytes bs s 4).2) := by
  unfold Rs.word
  generalize Rs.bytes bs s 4 = r at h
  obtain ⟨r1, r2⟩ := r
  simp only at h; subst h; rfl
theorem Rs.word_small {bs s} (h : (Rs.bytes bs s 4).1.length < 4) : Rs.word bs s = (0, (Rs.bytes bs s 4).2) := by
  unfold Rs.word
  generalize Rs.bytes bs s 4 = r at h
  obtain ⟨r1, r2⟩ := r
  match r1, h with
  | [], _ => rfl
  | [_], _ => rfl
  | [_, _], _ => rfl
  | [_, _, _], _ => rfl
  | _ :: _ :: _ :: _ :: _, h => simp at h; omega
section
variable {P : Program} {n : Nat} {c : Cx} {L : List (Nat × TV)} {d : Option Tmp} {ty : TypeId} {ps : String} {af : Array Edge} {gd : Option (Nat × Bool)}
theorem rd_lt0 {p q : Operand} {m : Nat} (hx : ev L p = some (.i64 (m : Int))) (hq : ev L q = some (.i64 0)) : Rd P ⟨d, .binOp .lss 3 p q 3, ty, ps, af, gd⟩ n c L (.b false) := by
  have := rd_bin (P := P) (n := n) (c := c) (d := d) (ty := ty) (ps := ps) (af := af) (gd := gd) (op := .lss) (t := 3) (t' := 3) hx hq rfl
  rwa [show decide ((m : Int) < 0) = false by simp] at this
theorem rd_isubA {t t' : TypeId} {p q : Operand} {x y : Nat} (hx : ev L p = some (.i64 ((x + y : Nat) : Int))) (hy : ev L q = some (.i64 (y : Int))) (hb : x + y ≤ 9223372036854775807) : Rd P ⟨d, .binOp .sub t p q t', ty, ps, af, gd⟩ n c L (.i64 (x : Int)) := by
  have := rd_isubN (P := P) (n := n) (c := c) (d := d) (ty := ty) (ps := ps) (af := af) (gd := gd) (t := t) (t' := t') hx hy (by omega) hb
  rwa [Nat.add_sub_cancel] at this
end
theorem Rs.uintRound_fst {bs sh s} : (Rs.uintRound bs sh s).1 = (s.byte bs).1 := rfl
theorem Rs.uintRound_bad {bs sh s} (h : uintBad sh (s.byte bs).1 = true) : (Rs.uintRound bs sh s).2 = (s.byte bs).2.fail 4 := by simp only [Rs.uintRound, h, if_true]
theorem Rs.uintRound_good {bs sh s} (h : uintBad sh (s.byte bs).1 = false) : (Rs.uintRound bs sh s).2 = (s.byte bs).2 := by simp [Rs.uintRound, h]
theorem Rs.fail_err {s : Rs} {e : Int} (he : e ≠ 0) : (s.fail e).err ≠ 0 := by unfold Rs.fail; split <;> simp_all
theorem Rs.uintGo_err {bs f s n} (h : (Rs.uintRound bs (63 - 7 * f) s).2.err ≠ 0) : Rs.uintGo bs f s n = (none, (s.uintRound bs (63 - 7 * f)).2) := by
  unfold Rs.uintGo; simp only [ne_eq, h, not_false_eq_true, if_true]
theorem Rs.uintGo_done {bs f s n} (h : (Rs.uintRound bs (63 - 7 * f) s).2.err = 0) (hb : (s.byte bs).1 < 128) : Rs.uintGo bs f s n = (some (n ||| shl64 ((s.byte bs).1 &&& 127).toUInt64 (63 - 7 * f)), (s.uintRound bs (63 - 7 * f)).2) := by
  unfold Rs.uintGo; simp only [ne_eq, h, not_true_eq_false, if_false, Rs.uintRound_fst, hb, if_true]
theorem Rs.uintGo_more {bs f s n} (h : (Rs.uintRound bs (63 - 7 * f) s).2.err = 0) (hb : ¬ (s.byte bs).1 < 128) : 0 < f ∧ Rs.uintGo bs f s n = Rs.uintGo bs (f - 1) (s.uintRound bs (63 - 7 * f)).2 (n ||| shl64 ((s.byte bs).1 &&& 127).toUInt64 (63 - 7 * f)) := by
  cases f with
  | zero =>
    exfalso
    have hbad : uintBad 63 (s.byte bs).1 = true := by
      unfold uintBad
      have : 1 < (s.byte bs).1 := by
        rw [UInt8.lt_iff_toNat_lt] at hb ⊢
        simp at hb ⊢; omega
      simp [this]
    have := Rs.uintRound_bad hbad
    simp only [Nat.mul_zero, Nat.sub_zero] at h
    rw [this] at h
    exact Rs.fail_err (by decide) h
  | succ f =>
    refine ⟨by omega, ?_⟩
    rw [Nat.add_sub_cancel]
    conv => lhs; unfold Rs.uintGo
    simp only [ne_eq, h, not_true_eq_false, if_false, Rs.uintRound_fst, hb]
theorem Rs.uintRound_at {bs sh s} (h : s.at_ ≤ bs.length) : (Rs.uintRound bs sh s).2.at_ ≤ bs.length := by
  unfold Rs.uintRound
  simp only
  split
  · rw [Rs.fail_at]; exact Rs.byte_at h
  · exact Rs.byte_at h
structure UG where
  f : Nat
  s : Rs
  n : UInt64
structure UGI (bs : List UInt8) (s : Rs) (q : UG) : Prop where
  f9 : q.f ≤ 9
  at_ : q.s.at_ ≤ bs.length
  eq : Rs.uintGo bs q.f q.s q.n = Rs.uintGo bs 9 s 0
theorem Rs.uintGo_at {bs} : ∀ {f s n}, s.at_ ≤ bs.length → (Rs.uintGo bs f s n).2.at_ ≤ bs.length := by
  intro f
  induction f with
  | zero =>
    intro s n h
    unfold Rs.uintGo
    simp only
    repeat' split
    all_goals exact Rs.uintRound_at h
  | succ f ih =>
    intro s n h
    unfold Rs.uintGo
    simp only
    repeat' split
    · exact Rs.uintRound_at h
    · exact Rs.uintRound_at h
    · exact ih (Rs.uintRound_at h)
theorem Rs.uint_at {bs s most} (h : s.at_ ≤ bs.length) : (Rs.uint bs s most).2.at_ ≤ bs.length := by
  have := Rs.uintGo_at (f := 9) (n := 0) h
  unfold Rs.uint
  split
  · rename_i e; rw [e] at this; exact this
  · rename_i e; rw [e] at this
    split
    · rw [Rs.fail_at]; exact this
    · exact this
theorem Rs.word_at {bs s} (h : s.at_ ≤ bs.length) : (Rs.word bs s).2.at_ ≤ bs.length := by
  have := Rs.bytes_at (n := 4) h
  unfold Rs.word
  split <;> (rename_i e; rw [e] at this; exact this)
theorem Rs.uint_none {bs s most s'} (h : Rs.uintGo bs 9 s 0 = (none, s')) : Rs.uint bs s most = (0, s') := by unfold Rs.uint; rw [h]
theorem Rs.uint_big {bs s most s' m} (h : Rs.uintGo bs 9 s 0 = (some m, s')) (hb : most < m) : Rs.uint bs s most = (0, s'.fail 7) := by unfold Rs.uint; rw [h]; simp only [hb, if_true]
theorem Rs.uint_ok {bs s most s' m} (h : Rs.uintGo bs 9 s 0 = (some m, s')) (hb : ¬ most < m) : Rs.uint bs s most = (m, s') := by unfold Rs.uint; rw [h]; simp only [hb, if_false]
theorem uintBad_tt {sh : Nat} {b : UInt8} (h : sh = 63) (hb : 1 < b) : true = uintBad sh b := by simp [uintBad, h, hb]
theorem uintBad_tf {sh : Nat} {b : UInt8} (h : sh = 63) (hb : ¬ 1 < b) : decide (b = 0) = uintBad sh b := by simp [uintBad, h, hb]
theorem uintBad_ff {sh : Nat} {b : UInt8} (h : sh ≠ 63) (h0 : 0 < sh) : decide (b = 0) = uintBad sh b := by simp [uintBad, h, h0]
theorem uintBad_f0 {sh : Nat} {b : UInt8} (h : sh ≠ 63) (h0 : ¬ 0 < sh) : false = uintBad sh b := by simp [uintBad, h, h0]
end Go.Hb
