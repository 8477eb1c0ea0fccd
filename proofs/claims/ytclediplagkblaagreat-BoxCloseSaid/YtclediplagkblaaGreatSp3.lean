/- A part of the proofs of this seat: rules of a logic of owned and of lent memory, what functions compute, or their walks. -/
import Derived.Test.YtclediplagkblaaGreatSp2
set_option linter.unusedVariables false
set_option linter.unusedSimpArgs false
namespace Go.Hb
open Go
structure UvI (n : UInt64) (p : List UInt8 × UInt64) : Prop where
  len : p.1.length ≤ 9
  eq : p.1 ++ uvarF (9 - p.1.length) p.2 = uvar n
  lt : p.2.toNat < 2 ^ (64 - 7 * p.1.length)
theorem UvI.init (n : UInt64) : UvI n ([], n) := ⟨by simp, rfl, by simpa using n.toNat_lt⟩
theorem UvI.more {n p} (h : UvI n p) (hb : 128 ≤ p.2) : p.1.length ≤ 8 := by
  have h1 := h.len
  have h2 := h.lt
  have h3 : 128 ≤ p.2.toNat := by simpa [UInt64.le_iff_toNat_le] using hb
  by_cases h9 : p.1.length = 9
  · rw [h9] at h2; simp at h2; omega
  · omega
theorem UvI.step {n p} (h : UvI n p) (hb : 128 ≤ p.2) : UvI n (p.1 ++ [p.2.toUInt8 ||| 128], shr64 p.2 7) := by
  have h8 := h.more hb
  refine ⟨by simp; omega, ?_, ?_⟩
  · rw [← h.eq]
    have : 9 - p.1.length = (9 - (p.1 ++ [p.2.toUInt8 ||| 128]).length) + 1 := by simp; omega
    rw [this]
    simp only [uvarF, if_pos hb, List.append_assoc, List.cons_append, List.nil_append]
  · have := h.lt
    simp only [shr64_toNat, List.length_append, List.length_singleton]
    have e : 64 - 7 * p.1.length = (64 - 7 * (p.1.length + 1)) + 7 := by omega
    rw [e, Nat.pow_add] at this
    exact Nat.div_lt_of_lt_mul (by rw [Nat.mul_comm]; exact this)
theorem UvI.done {n p} (h : UvI n p) (hb : ¬ 128 ≤ p.2) : p.1 ++ [p.2.toUInt8] = uvar n := by
  rw [← h.eq]
  cases 9 - p.1.length <;> simp [uvarF, hb]
theorem uvarF_length (f : Nat) : ∀ n, (uvarF f n).length ≤ f + 1 := by
  induction f with
  | zero => intro n; simp [uvarF]
  | succ f ih => intro n; unfold uvarF; split <;> simp [ih]
theorem uvar_length (n : UInt64) : (uvar n).length ≤ 10 := uvarF_length 9 n
def frameChk (nm : List UInt8) (k : UInt8) (n : Nat) : Int := if nm.length < 1 then 12 else if 255 < nm.length then 12 else if 6 ≤ k then 5 else if 1048576 < n then 6 else 0
def frameHead (nm : List UInt8) (k : UInt8) (n : Nat) : List UInt8 := [UInt8.ofInt (nm.length : Int)] ++ nm ++ [k] ++ wordB (UInt32.ofInt (n : Int))
def frameB (nm : List UInt8) (k : UInt8) (pl : List UInt8) : List UInt8 := crcB (frameHead nm k pl.length) ++ crcB pl
theorem frameHead_length (nm k n) : (frameHead nm k n).length = nm.length + 6 := by simp [frameHead, wordB_length]
theorem frameB_length (nm k pl) : (frameB nm k pl).length = nm.length + pl.length + 14 := by simp [frameB, crcB_length, frameHead_length]; omega
theorem frameChk_ok {nm k n} (h : frameChk nm k n = 0) : 1 ≤ nm.length ∧ nm.length ≤ 255 ∧ k < 6 ∧ n ≤ 1048576 := by
  unfold frameChk at h
  by_cases h1 : nm.length < 1
  · simp [h1] at h
  by_cases h2 : 255 < nm.length
  · simp [h1, h2] at h
  by_cases h3 : 6 ≤ k
  · simp [h1, h2, h3] at h
  by_cases h4 : 1048576 < n
  · simp [h1, h2, h3, h4] at h
  exact ⟨by omega, by omega, by simpa using h3, by omega⟩
structure Ent where
  nm : List UInt8
  at_ : Int
  sz : Int
def Ent.tv (e : Ent) : List TV := [.str e.nm, .i64 e.at_, .i64 e.sz]
def Ent.chk (e : Ent) (p : Option Ent) : Int :=
  if e.nm.length < 1 then 12 else if 255 < e.nm.length then 12 else if e.at_ < 0 then 2 else if 1048576 < e.at_ then 2 else if e.sz < 1 then 2 else if 1048576 < e.sz then 2 else
  match p with
  | none => 0
  | some p => if (Go.Op.bytesLess e.nm p.nm || e.nm == p.nm) then 8 else if e.at_ ≠ p.at_ + p.sz then 4 else 0
def chkFrom (p : Option Ent) : List Ent → Int
  | [] => 0
  | e :: l => if e.chk p = 0 then chkFrom (some e) l else e.chk p
def indexChk (l : List Ent) : Int := if 1000 < l.length then 7 else chkFrom none l
def indexEnt (i : Nat) (e : Ent) : List UInt8 := (if i = 0 then uvar (UInt64.ofInt e.at_) else []) ++ [UInt8.ofInt (e.nm.length : Int)] ++ e.nm ++ uvar (UInt64.ofInt e.sz)
def entsB (l : List Ent) (k : Nat) : List UInt8 := ((List.range k).map fun i => match l[i]? with | some e => indexEnt i e | none => []).flatten
theorem entsB_zero (l : List Ent) : entsB l 0 = [] := rfl
theorem entsB_succ {l : List Ent} {k : Nat} {e : Ent} (h : l[k]? = some e) : entsB l (k + 1) = entsB l k ++ indexEnt k e := by simp [entsB, List.range_succ, h]
def indexBody (l : List Ent) : List UInt8 := uvar (UInt64.ofInt (l.length : Int)) ++ entsB l l.length
def indexB (l : List Ent) : List UInt8 := crcB (indexBody l)
def prevOf (l : List Ent) : Nat → Option Ent
  | 0 => none
  | j + 1 => l[j]?
theorem chkFrom_step {l : List Ent} {k : Nat} {e : Ent} (h : l[k]? = some e) : chkFrom (prevOf l k) (l.drop k) = if e.chk (prevOf l k) = 0 then chkFrom (prevOf l (k + 1)) (l.drop (k + 1)) else e.chk (prevOf l k) := by
  obtain ⟨hk, rfl⟩ := List.getElem?_eq_some_iff.1 h
  rw [List.drop_eq_getElem_cons hk]
  simp only [chkFrom, prevOf]
  rw [h]
theorem Ent.chk_ok {e : Ent} {p} (h : e.chk p = 0) : 1 ≤ e.nm.length ∧ e.nm.length ≤ 255 ∧ 0 ≤ e.at_ ∧ e.at_ ≤ 1048576 ∧ 1 ≤ e.sz ∧ e.sz ≤ 1048576 := by
  unfold Ent.chk at h
  by_cases h1 : e.nm.length < 1
  · simp [h1] at h
  by_cases h2 : 255 < e.nm.length
  · simp [h1, h2] at h
  by_cases h3 : e.at_ < 0
  · simp [h1, h2, h3] at h
  by_cases h4 : 1048576 < e.at_
  · simp [h1, h2, h3, h4] at h
  by_cases h5 : e.sz < 1
  · simp [h1, h2, h3, h4, h5] at h
  by_cases h6 : 1048576 < e.sz
  · simp [h1, h2, h3, h4, h5, h6] at h
  omega
theorem chkFrom_all : ∀ (l : List Ent) (p : Option Ent), chkFrom p l = 0 → ∀ e ∈ l, ∃ q, e.chk q = 0
  | [], _, _, _, h => by cases h
  | x :: l, p, h, e, he => by
    unfold chkFrom at h
    split at h
    · rename_i h0
      rcases List.mem_cons.1 he with rfl | he
      · exact ⟨_, h0⟩
      · exact chkFrom_all l _ h e he
    · rename_i h0; exact absurd h h0
theorem indexChk_ok {l : List Ent} (h : indexChk l = 0) : l.length ≤ 1000 ∧ ∀ e ∈ l, 1 ≤ e.nm.length ∧ e.nm.length ≤ 255 ∧ 0 ≤ e.at_ ∧ e.at_ ≤ 1048576 ∧ 1 ≤ e.sz ∧ e.sz ≤ 1048576 := by
  unfold indexChk at h
  split at h
  · cases h
  · refine ⟨by omega, fun e he => ?_⟩
    obtain ⟨q, hq⟩ := chkFrom_all l none h e he
    exact Ent.chk_ok hq
theorem indexEnt_length (i : Nat) (e : Ent) (h : e.nm.length ≤ 255) : (indexEnt i e).length ≤ 276 := by
  have h1 := uvar_length (UInt64.ofInt e.at_)
  have h2 := uvar_length (UInt64.ofInt e.sz)
  unfold indexEnt
  split <;> simp <;> omega
theorem entsB_length {l : List Ent} (h : ∀ e ∈ l, e.nm.length ≤ 255) : ∀ k, (entsB l k).length ≤ 276 * k
  | 0 => by simp [entsB]
  | k + 1 => by
    have ih := entsB_length h k
    cases e : l[k]? with
    | none => simp [entsB, List.range_succ, e] at ih ⊢; omega
    | some x =>
      rw [entsB_succ e]
      have := indexEnt_length k x (h x (List.mem_of_getElem? e))
      simp; omega
theorem flat_len {α : Type} (f : α → List TV) {m : Nat} (hf : ∀ x, (f x).length = m) (l : List α) : (l.flatMap f).length = l.length * m := by
  induction l with
  | nil => simp
  | cons a l ih => simp [List.flatMap_cons, hf, ih, Nat.add_mul]; omega
theorem flat_drop {α : Type} (f : α → List TV) {m : Nat} (hf : ∀ x, (f x).length = m) : ∀ (l : List α) (k : Nat), (l.flatMap f).drop (k * m) = (l.drop k).flatMap f
  | l, 0 => by simp
  | [], k + 1 => by simp
  | a :: l, k + 1 => by
    rw [List.flatMap_cons, List.drop_append, Nat.add_mul, Nat.one_mul]
    rw [List.drop_of_length_le (by rw [hf]; omega), hf, Nat.add_sub_cancel, flat_drop f hf l k]; rfl
theorem flat_get {α : Type} {f : α → List TV} {m : Nat} (hf : ∀ x, (f x).length = m) {l : List α} {k : Nat} {e : α} (h : l[k]? = some e) : ((l.flatMap f).drop (k * m)).take m = f e := by
  obtain ⟨hk, rfl⟩ := List.getElem?_eq_some_iff.1 h
  rw [flat_drop f hf, List.drop_eq_getElem_cons hk, List.flatMap_cons, List.take_append_of_le_length (by rw [hf]; exact Nat.le_refl _), List.take_of_length_le (by rw [hf]; exact Nat.le_refl _)]
theorem flat_cell {α : Type} {f : α → List TV} {m : Nat} (hf : ∀ x, (f x).length = m) {l : List α} {k j : Nat} {e : α} {y : TV} (h : l[k]? = some e) (hy : (f e)[j]? = some y) : (l.flatMap f)[k * m + j]? = some y := by
  have h1 := flat_get hf h
  have hj : j < m := by have := (List.getElem?_eq_some_iff.1 hy).1; rwa [hf] at this
  rw [← h1, List.getElem?_take, if_pos hj, List.getElem?_drop] at hy
  exact hy
theorem indexChk_ret {l : List Ent} {k : Nat} {e : Ent} {code : Int} (hl : l.length ≤ 1000) (hI : chkFrom (prevOf l k) (l.drop k) = chkFrom none l) (he : l[k]? = some e) (hc : e.chk (prevOf l k) = code) (hne : code ≠ 0) : code = indexChk l := by
  rw [indexChk, if_neg (by omega), ← hI, chkFrom_step he, if_neg (by rw [hc]; exact hne), hc]
structure IxI (l : List Ent) (k : Nat) : Prop where
  le : k ≤ l.length
  eq : chkFrom (prevOf l k) (l.drop k) = chkFrom none l
  bd : ∀ q, prevOf l k = some q → 0 ≤ q.at_ ∧ q.at_ ≤ 1048576 ∧ 1 ≤ q.sz ∧ q.sz ≤ 1048576
theorem IxI.init (l : List Ent) : IxI l 0 := ⟨Nat.zero_le _, rfl, fun q h => by cases h⟩
theorem IxI.step {l : List Ent} {k : Nat} {e : Ent} (h : IxI l k) (he : l[k]? = some e) (hc : e.chk (prevOf l k) = 0) : IxI l (k + 1) :=
  ⟨(List.getElem?_eq_some_iff.1 he).1, by rw [← h.eq, chkFrom_step he, if_pos hc], fun q hq => by
    have : e = q := by simpa [prevOf, he] using hq
    subst this
    have := Ent.chk_ok hc
    omega⟩
theorem IxI.done {l : List Ent} (h : IxI l l.length) (hl : l.length ≤ 1000) : 0 = indexChk l := by
  rw [indexChk, if_neg (by omega), ← h.eq]; simp [chkFrom]
section
variable {P : Program} {n : Nat} {c : Cx} {L : List (Nat × TV)} {d : Option Tmp} {ty : TypeId} {ps : String} {af : Array Edge} {gd : Option (Nat × Bool)}
theorem rd_ipred {p q : Operand} {j : Nat} (hx : ev L p = some (.i64 ((j + 1 : Nat) : Int))) (hq : ev L q = some (.i64 1)) (hb : j ≤ 9223372036854775807) : Rd P ⟨d, .binOp .sub 3 p q 3, ty, ps, af, gd⟩ n c L (.i64 (j : Int)) := by
  have := rd_isub (P := P) (n := n) (c := c) (d := d) (ty := ty) (ps := ps) (af := af) (gd := gd) (t := 3) (t' := 3) hx hq (by omega)
  rwa [show ((j + 1 : Nat) : Int) - 1 = (j : Int) by omega] at this
theorem rd_gt0s {p q : Operand} {j : Nat} (hx : ev L p = some (.i64 ((j + 1 : Nat) : Int))) (hq : ev L q = some (.i64 0)) : Rd P ⟨d, .binOp .gtr 3 p q 3, ty, ps, af, gd⟩ n c L (.b true) := by
  have := rd_bin (P := P) (n := n) (c := c) (d := d) (ty := ty) (ps := ps) (af := af) (gd := gd) (op := .gtr) (t := 3) (t' := 3) hx hq rfl
  rwa [show decide ((0 : Int) < ((j + 1 : Nat) : Int)) = true by simp] at this
theorem rd_gt0z {p q : Operand} (hx : ev L p = some (.i64 ((0 : Nat) : Int))) (hq : ev L q = some (.i64 0)) : Rd P ⟨d, .binOp .gtr 3 p q 3, ty, ps, af, gd⟩ n c L (.b false) :=
  rd_bin (P := P) (n := n) (c := c) (d := d) (ty := ty) (ps := ps) (af := af) (gd := gd) (op := .gtr) (t := 3) (t' := 3) hx hq rfl
theorem rd_eq0s {p q : Operand} {j : Nat} (hx : ev L p = some (.i64 ((j + 1 : Nat) : Int))) (hq : ev L q = some (.i64 0)) : Rd P ⟨d, .binOp .eql 3 p q 3, ty, ps, af, gd⟩ n c L (.b false) := by
  have := rd_bin (P := P) (n := n) (c := c) (d := d) (ty := ty) (ps := ps) (af := af) (gd := gd) (op := .eql) (t := 3) (t' := 3) hx hq rfl
  rwa [show decide (((j + 1 : Nat) : Int) = 0) = false by simp; omega] at this
theorem rd_eq0z {p q : Operand} (hx : ev L p = some (.i64 ((0 : Nat) : Int))) (hq : ev L q = some (.i64 0)) : Rd P ⟨d, .binOp .eql 3 p q 3, ty, ps, af, gd⟩ n c L (.b true) :=
  rd_bin (P := P) (n := n) (c := c) (d := d) (ty := ty) (ps := ps) (af := af) (gd := gd) (op := .eql) (t := 3) (t' := 3) hx hq rfl
end
end Go.Hb
