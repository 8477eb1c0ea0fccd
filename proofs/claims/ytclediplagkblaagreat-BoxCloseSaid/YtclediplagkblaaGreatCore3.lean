/- A part of the proofs of this seat: rules of a logic of owned and of lent memory, what functions compute, or their walks. -/
import Derived.Test.YtclediplagkblaaGreatCore2
set_option linter.unusedVariables false
set_option linter.unusedSimpArgs false
namespace Go.Hb
open Go
section
variable {P : Program} {n : Nat} {c : Cx} {L : List (Nat × TV)} {d : Option Tmp} {ty : TypeId} {ps : String} {af : Array Edge} {gd : Option (Nat × Bool)}
theorem rd_move {p : Operand} {x : TV} (hx : ev L p = some x) : Rd P ⟨d, .move p, ty, ps, af, gd⟩ n c L x := by
  refine ⟨fun a he w _ => ?_⟩
  simp [execOp, ev_spec he hx]
theorem rd_assign {p : Operand} {x : TV} (hx : ev L p = some x) : Rd P ⟨d, .assign p, ty, ps, af, gd⟩ n c L x := by
  refine ⟨fun a he w _ => ?_⟩
  simp [execOp, ev_spec he hx]
theorem rd_pick {p q r : Operand} {t : Bool} {x : TV} (hp : ev L p = some (.b t)) (hx : (bif t then ev L q else ev L r) = some x) : Rd P ⟨d, .pick p q r, ty, ps, af, gd⟩ n c L x := by
  refine ⟨fun a he w _ => ?_⟩
  cases t
  · have := ev_spec he (p := r) (x := x) (by simpa using hx)
    simp [execOp, ev_spec he hp, TV.v, asBool, this]
  · have := ev_spec he (p := q) (x := x) (by simpa using hx)
    simp [execOp, ev_spec he hp, TV.v, asBool, this]
theorem rd_nilCheck {p : Operand} {g j : Nat} (hx : ev L p = some (.ptr g j)) : Rd P ⟨d, .nilCheck p, ty, ps, af, gd⟩ n c L (.ptr g j) := by
  refine ⟨fun a he w _ => ?_⟩
  simp [execOp, ev_spec he hx, TV.v]
def cmpD (op : BinOp) (lt eq : Bool) : Option TV :=
  match op with
  | .eql => some (.b eq) | .neq => some (.b (!eq)) | .lss => some (.b lt) | .leq => some (.b (lt || eq)) | .gtr => some (.b (!(lt || eq))) | .geq => some (.b (!lt)) | _ => none
def bin64 (op : BinOp) (x y : UInt64) : Option TV :=
  match op with
  | .add => some (.u64 (x + y)) | .sub => some (.u64 (x - y)) | .mul => some (.u64 (x * y))
  | .and => some (.u64 (x &&& y)) | .or => some (.u64 (x ||| y)) | .xor => some (.u64 (x ^^^ y)) | .andNot => some (.u64 (x &&& ~~~y))
  | .eql => some (.b (decide (x = y))) | .neq => some (.b (!decide (x = y))) | .lss => some (.b (decide (x < y))) | .leq => some (.b (decide (x ≤ y))) | .gtr => some (.b (decide (y < x))) | .geq => some (.b (decide (y ≤ x)))
  | _ => none
def bin32 (op : BinOp) (x y : UInt32) : Option TV :=
  match op with
  | .add => some (.u32 (x + y)) | .sub => some (.u32 (x - y)) | .mul => some (.u32 (x * y))
  | .and => some (.u32 (x &&& y)) | .or => some (.u32 (x ||| y)) | .xor => some (.u32 (x ^^^ y)) | .andNot => some (.u32 (x &&& ~~~y))
  | .eql => some (.b (decide (x = y))) | .neq => some (.b (!decide (x = y))) | .lss => some (.b (decide (x < y))) | .leq => some (.b (decide (x ≤ y))) | .gtr => some (.b (decide (y < x))) | .geq => some (.b (decide (y ≤ x)))
  | _ => none
def bin8 (op : BinOp) (x y : UInt8) : Option TV :=
  match op with
  | .add => some (.u8 (x + y)) | .sub => some (.u8 (x - y)) | .mul => some (.u8 (x * y))
  | .and => some (.u8 (x &&& y)) | .or => some (.u8 (x ||| y)) | .xor => some (.u8 (x ^^^ y)) | .andNot => some (.u8 (x &&& ~~~y))
  | .eql => some (.b (decide (x = y))) | .neq => some (.b (!decide (x = y))) | .lss => some (.b (decide (x < y))) | .leq => some (.b (decide (x ≤ y))) | .gtr => some (.b (decide (y < x))) | .geq => some (.b (decide (y ≤ x)))
  | _ => none
def bin16 (op : BinOp) (x y : UInt16) : Option TV :=
  match op with
  | .add => some (.u16 (x + y)) | .sub => some (.u16 (x - y))
  | .eql => some (.b (decide (x = y))) | .neq => some (.b (!decide (x = y))) | .lss => some (.b (decide (x < y))) | .leq => some (.b (decide (x ≤ y))) | .gtr => some (.b (decide (y < x))) | .geq => some (.b (decide (y ≤ x)))
  | _ => none
def cmpI (op : BinOp) (x y : Int) : Option TV :=
  match op with
  | .eql => some (.b (decide (x = y))) | .neq => some (.b (!decide (x = y))) | .lss => some (.b (decide (x < y))) | .leq => some (.b (decide (x ≤ y))) | .gtr => some (.b (decide (y < x))) | .geq => some (.b (decide (y ≤ x)))
  | _ => none
def binTV (op : BinOp) : TV → TV → Option TV
  | .u64 x, .u64 y => bin64 op x y
  | .u32 x, .u32 y => bin32 op x y
  | .u8 x, .u8 y => bin8 op x y
  | .u16 x, .u16 y => bin16 op x y
  | .i64 x, .i64 y => cmpI op x y
  | _, _ => none
theorem eqGuard_int {P : Program} {op : BinOp} {t : TypeId} {x y : Operand} {k k' : IntKind} {a b : Int} {w : World} : (eqGuard op t x y (.int k a) (.int k' b)).run P w = .ok () w := by
  unfold eqGuard
  split <;> simp
theorem wrap_u64 (z : Int) : IntKind.u64.wrap z = z % 18446744073709551616 := by simp [IntKind.wrap, IntKind.signed, IntKind.bits]
theorem wrap_u32 (z : Int) : IntKind.u32.wrap z = z % 4294967296 := by simp [IntKind.wrap, IntKind.signed, IntKind.bits]
theorem wrap_u16 (z : Int) : IntKind.u16.wrap z = z % 65536 := by simp [IntKind.wrap, IntKind.signed, IntKind.bits]
theorem wrap_u8 (z : Int) : IntKind.u8.wrap z = z % 256 := by simp [IntKind.wrap, IntKind.signed, IntKind.bits]
theorem wrap_i64 {z : Int} (h : -9223372036854775808 ≤ z ∧ z ≤ 9223372036854775807) : IntKind.i64.wrap z = z := by
  have e : IntKind.i64.wrap z = if (decide (z % 18446744073709551616 ≥ 9223372036854775808)) = true then z % 18446744073709551616 - 18446744073709551616 else z % 18446744073709551616 := rfl
  rw [e]
  split <;> rename_i hh <;> simp at hh <;> omega
theorem ofInt8 (x : UInt8) : BitVec.ofInt 8 (x.toNat : Int) = x.toBitVec := by
  apply BitVec.eq_of_toNat_eq
  have := x.toNat_lt
  simp
theorem back8 (b : BitVec 8) : IntKind.u8.wrap (b.toNat : Int) = b.toNat := by
  rw [wrap_u8]
  have := b.isLt
  omega
theorem bin8_run {P : Program} {op : BinOp} {t : TypeId} {x y : UInt8} {z : TV} {w : World} (h : bin8 op x y = some z) : (binOp op t (.int .u8 x.toNat) (.int .u8 y.toNat)).run P w = .ok z.v w := by
  have hx := x.toNat_lt; have hy := y.toNat_lt
  have E1 := ofInt8 x; have E2 := ofInt8 y
  cases op <;> simp only [bin8, Option.some.injEq, reduceCtorEq] at h <;> subst h
  case add => show Result.ok _ w = Result.ok _ w; rw [wrap_u8]; simp only [TV.v, Result.ok.injEq, Value.int.injEq, true_and, and_true]; rw [UInt8.toNat_add]; omega
  case sub => show Result.ok _ w = Result.ok _ w; rw [wrap_u8]; simp only [TV.v, Result.ok.injEq, Value.int.injEq, true_and, and_true]; rw [UInt8.toNat_sub]; omega
  case mul => show Result.ok _ w = Result.ok _ w; rw [wrap_u8]; simp only [TV.v, Result.ok.injEq, Value.int.injEq, true_and, and_true]; rw [UInt8.toNat_mul]; simp
  case and => show Result.ok (Value.int .u8 (IntKind.u8.wrap ((BitVec.ofInt 8 ↑x.toNat &&& BitVec.ofInt 8 ↑y.toNat).toNat : Int))) w = _; rw [back8, E1, E2]; rfl
  case or => show Result.ok (Value.int .u8 (IntKind.u8.wrap ((BitVec.ofInt 8 ↑x.toNat ||| BitVec.ofInt 8 ↑y.toNat).toNat : Int))) w = _; rw [back8, E1, E2]; rfl
  case xor => show Result.ok (Value.int .u8 (IntKind.u8.wrap ((BitVec.ofInt 8 ↑x.toNat ^^^ BitVec.ofInt 8 ↑y.toNat).toNat : Int))) w = _; rw [back8, E1, E2]; rfl
  case andNot => show Result.ok (Value.int .u8 (IntKind.u8.wrap ((BitVec.ofInt 8 ↑x.toNat &&& ~~~(BitVec.ofInt 8 ↑y.toNat)).toNat : Int))) w = _; rw [back8, E1, E2]; rfl
  case eql => show Result.ok (Value.bool ((x.toNat : Int) == (y.toNat : Int))) w = _; congr 2; rw [Bool.eq_iff_iff]; simp [← UInt8.toNat_inj]; omega
  case neq => show Result.ok (Value.bool ((x.toNat : Int) != (y.toNat : Int))) w = _; congr 2; rw [Bool.eq_iff_iff]; simp [← UInt8.toNat_inj]; omega
  case lss => show Result.ok (Value.bool (decide ((x.toNat : Int) < (y.toNat : Int)))) w = _; congr 2; simp [UInt8.lt_iff_toNat_lt]
  case leq => show Result.ok (Value.bool (decide ((x.toNat : Int) ≤ (y.toNat : Int)))) w = _; congr 2; simp [UInt8.le_iff_toNat_le]
  case gtr => show Result.ok (Value.bool (decide ((x.toNat : Int) > (y.toNat : Int)))) w = _; congr 2; simp [UInt8.lt_iff_toNat_lt]
  case geq => show Result.ok (Value.bool (decide ((x.toNat : Int) ≥ (y.toNat : Int)))) w = _; congr 2; simp [UInt8.le_iff_toNat_le]
theorem ofInt16 (x : UInt16) : BitVec.ofInt 16 (x.toNat : Int) = x.toBitVec := by
  apply BitVec.eq_of_toNat_eq
  have := x.toNat_lt
  simp
theorem back16 (b : BitVec 16) : IntKind.u16.wrap (b.toNat : Int) = b.toNat := by
  rw [wrap_u16]
  have := b.isLt
  omega
theorem bin16_run {P : Program} {op : BinOp} {t : TypeId} {x y : UInt16} {z : TV} {w : World} (h : bin16 op x y = some z) : (binOp op t (.int .u16 x.toNat) (.int .u16 y.toNat)).run P w = .ok z.v w := by
  have hx := x.toNat_lt; have hy := y.toNat_lt
  have E1 := ofInt16 x; have E2 := ofInt16 y
  cases op <;> simp only [bin16, Option.some.injEq, reduceCtorEq] at h <;> subst h
  case add => show Result.ok _ w = Result.ok _ w; rw [wrap_u16]; simp only [TV.v, Result.ok.injEq, Value.int.injEq, true_and, and_true]; rw [UInt16.toNat_add]; omega
  case sub => show Result.ok _ w = Result.ok _ w; rw [wrap_u16]; simp only [TV.v, Result.ok.injEq, Value.int.injEq, true_and, and_true]; rw [UInt16.toNat_sub]; omega
  case eql => show Result.ok (Value.bool ((x.toNat : Int) == (y.toNat : Int))) w = _; congr 2; rw [Bool.eq_iff_iff]; simp [← UInt16.toNat_inj]; omega
  case neq => show Result.ok (Value.bool ((x.toNat : Int) != (y.toNat : Int))) w = _; congr 2; rw [Bool.eq_iff_iff]; simp [← UInt16.toNat_inj]; omega
  case lss => show Result.ok (Value.bool (decide ((x.toNat : Int) < (y.toNat : Int)))) w = _; congr 2; simp [UInt16.lt_iff_toNat_lt]
  case leq => show Result.ok (Value.bool (decide ((x.toNat : Int) ≤ (y.toNat : Int)))) w = _; congr 2; simp [UInt16.le_iff_toNat_le]
  case gtr => show Result.ok (Value.bool (decide ((x.toNat : Int) > (y.toNat : Int)))) w = _; congr 2; simp [UInt16.lt_iff_toNat_lt]
  case geq => show Result.ok (Value.bool (decide ((x.toNat : Int) ≥ (y.toNat : Int)))) w = _; congr 2; simp [UInt16.le_iff_toNat_le]
theorem ofInt32 (x : UInt32) : BitVec.ofInt 32 (x.toNat : Int) = x.toBitVec := by
  apply BitVec.eq_of_toNat_eq
  have := x.toNat_lt
  simp
theorem back32 (b : BitVec 32) : IntKind.u32.wrap (b.toNat : Int) = b.toNat := by
  rw [wrap_u32]
  have := b.isLt
  omega
theorem bin32_run {P : Program} {op : BinOp} {t : TypeId} {x y : UInt32} {z : TV} {w : World} (h : bin32 op x y = some z) : (binOp op t (.int .u32 x.toNat) (.int .u32 y.toNat)).run P w = .ok z.v w := by
  have hx := x.toNat_lt; have hy := y.toNat_lt
  have E1 := ofInt32 x; have E2 := ofInt32 y
  cases op <;> simp only [bin32, Option.some.injEq, reduceCtorEq] at h <;> subst h
  case add => show Result.ok _ w = Result.ok _ w; rw [wrap_u32]; simp only [TV.v, Result.ok.injEq, Value.int.injEq, true_and, and_true]; rw [UInt32.toNat_add]; omega
  case sub => show Result.ok _ w = Result.ok _ w; rw [wrap_u32]; simp only [TV.v, Result.ok.injEq, Value.int.injEq, true_and, and_true]; rw [UInt32.toNat_sub]; omega
  case mul => show Result.ok _ w = Result.ok _ w; rw [wrap_u32]; simp only [TV.v, Result.ok.injEq, Value.int.injEq, true_and, and_true]; rw [UInt32.toNat_mul]; simp
  case and => show Result.ok (Value.int .u32 (IntKind.u32.wrap ((BitVec.ofInt 32 ↑x.toNat &&& BitVec.ofInt 32 ↑y.toNat).toNat : Int))) w = _; rw [back32, E1, E2]; rfl
  case or => show Result.ok (Value.int .u32 (IntKind.u32.wrap ((BitVec.ofInt 32 ↑x.toNat ||| BitVec.ofInt 32 ↑y.toNat).toNat : Int))) w = _; rw [back32, E1, E2]; rfl
  case xor => show Result.ok (Value.int .u32 (IntKind.u32.wrap ((BitVec.ofInt 32 ↑x.toNat ^^^ BitVec.ofInt 32 ↑y.toNat).toNat : Int))) w = _; rw [back32, E1, E2]; rfl
  case andNot => show Result.ok (Value.int .u32 (IntKind.u32.wrap ((BitVec.ofInt 32 ↑x.toNat &&& ~~~(BitVec.ofInt 32 ↑y.toNat)).toNat : Int))) w = _; rw [back32, E1, E2]; rfl
  case eql => show Result.ok (Value.bool ((x.toNat : Int) == (y.toNat : Int))) w = _; congr 2; rw [Bool.eq_iff_iff]; simp [← UInt32.toNat_inj]; omega
  case neq => show Result.ok (Value.bool ((x.toNat : Int) != (y.toNat : Int))) w = _; congr 2; rw [Bool.eq_iff_iff]; simp [← UInt32.toNat_inj]; omega
  case lss => show Result.ok (Value.bool (decide ((x.toNat : Int) < (y.toNat : Int)))) w = _; congr 2; simp [UInt32.lt_iff_toNat_lt]
  case leq => show Result.ok (Value.bool (decide ((x.toNat : Int) ≤ (y.toNat : Int)))) w = _; congr 2; simp [UInt32.le_iff_toNat_le]
  case gtr => show Result.ok (Value.bool (decide ((x.toNat : Int) > (y.toNat : Int)))) w = _; congr 2; simp [UInt32.lt_iff_toNat_lt]
  case geq => show Result.ok (Value.bool (decide ((x.toNat : Int) ≥ (y.toNat : Int)))) w = _; congr 2; simp [UInt32.le_iff_toNat_le]
theorem ofInt64 (x : UInt64) : BitVec.ofInt 64 (x.toNat : Int) = x.toBitVec := by
  apply BitVec.eq_of_toNat_eq
  have := x.toNat_lt
  simp
theorem back64 (b : BitVec 64) : IntKind.u64.wrap (b.toNat : Int) = b.toNat := by
  rw [wrap_u64]
  have := b.isLt
  omega
theorem bin64_run {P : Program} {op : BinOp} {t : TypeId} {x y : UInt64} {z : TV} {w : World} (h : bin64 op x y = some z) : (binOp op t (.int .u64 x.toNat) (.int .u64 y.toNat)).run P w = .ok z.v w := by
  have hx := x.toNat_lt; have hy := y.toNat_lt
  have E1 := ofInt64 x; have E2 := ofInt64 y
  cases op <;> simp only [bin64, Option.some.injEq, reduceCtorEq] at h <;> subst h
  case add => show Result.ok _ w = Result.ok _ w; rw [wrap_u64]; simp only [TV.v, Result.ok.injEq, Value.int.injEq, true_and, and_true]; rw [UInt64.toNat_add]; omega
  case sub => show Result.ok _ w = Result.ok _ w; rw [wrap_u64]; simp only [TV.v, Result.ok.injEq, Value.int.injEq, true_and, and_true]; rw [UInt64.toNat_sub]; omega
  case mul => show Result.ok _ w = Result.ok _ w; rw [wrap_u64]; simp only [TV.v, Result.ok.injEq, Value.int.injEq, true_and, and_true]; rw [UInt64.toNat_mul]; simp
  case and => show Result.ok (Value.int .u64 (IntKind.u64.wrap ((BitVec.ofInt 64 ↑x.toNat &&& BitVec.ofInt 64 ↑y.toNat).toNat : Int))) w = _; rw [back64, E1, E2]; rfl
  case or => show Result.ok (Value.int .u64 (IntKind.u64.wrap ((BitVec.ofInt 64 ↑x.toNat ||| BitVec.ofInt 64 ↑y.toNat).toNat : Int))) w = _; rw [back64, E1, E2]; rfl
  case xor => show Result.ok (Value.int .u64 (IntKind.u64.wrap ((BitVec.ofInt 64 ↑x.toNat ^^^ BitVec.ofInt 64 ↑y.toNat).toNat : Int))) w = _; rw [back64, E1, E2]; rfl
  case andNot => show Result.ok (Value.int .u64 (IntKind.u64.wrap ((BitVec.ofInt 64 ↑x.toNat &&& ~~~(BitVec.ofInt 64 ↑y.toNat)).toNat : Int))) w = _; rw [back64, E1, E2]; rfl
  case eql => show Result.ok (Value.bool ((x.toNat : Int) == (y.toNat : Int))) w = _; congr 2; rw [Bool.eq_iff_iff]; simp [← UInt64.toNat_inj]; omega
  case neq => show Result.ok (Value.bool ((x.toNat : Int) != (y.toNat : Int))) w = _; congr 2; rw [Bool.eq_iff_iff]; simp [← UInt64.toNat_inj]; omega
  case lss => show Result.ok (Value.bool (decide ((x.toNat : Int) < (y.toNat : Int)))) w = _; congr 2; simp [UInt64.lt_iff_toNat_lt]
  case leq => show Result.ok (Value.bool (decide ((x.toNat : Int) ≤ (y.toNat : Int)))) w = _; congr 2; simp [UInt64.le_iff_toNat_le]
  case gtr => show Result.ok (Value.bool (decide ((x.toNat : Int) > (y.toNat : Int)))) w = _; congr 2; simp [UInt64.lt_iff_toNat_lt]
  case geq => show Result.ok (Value.bool (decide ((x.toNat : Int) ≥ (y.toNat : Int)))) w = _; congr 2; simp [UInt64.le_iff_toNat_le]
theorem cmpI_run {P : Program} {op : BinOp} {t : TypeId} {x y : Int} {z : TV} {w : World} (h : cmpI op x y = some z) : (binOp op t (.int .i64 x) (.int .i64 y)).run P w = .ok z.v w := by
  cases op <;> simp only [cmpI, Option.some.injEq, reduceCtorEq] at h <;> subst h
  case eql => show Result.ok (Value.bool (x == y)) w = _; congr 2
  case neq => show Result.ok (Value.bool (x != y)) w = _; congr 2
  case lss => rfl
  case leq => rfl
  case gtr => rfl
  case geq => rfl
theorem rd_bin {op : BinOp} {t t' : TypeId} {p q : Operand} {x y z : TV} (hx : ev L p = some x) (hy : ev L q = some y) (hz : binTV op x y = some z) : Rd P ⟨d, .binOp op t p q t', ty, ps, af, gd⟩ n c L z := by
  refine ⟨fun a he w _ => ?_⟩
  have e1 := ev_spec he hx
  have e2 := ev_spec he hy
  have key : (eqGuard op t p q x.v y.v).run P w = .ok () w ∧ (binOp op t x.v y.v).run P w = .ok z.v w := by
    unfold binTV at hz
    split at hz
    · exact ⟨eqGuard_int, bin64_run hz⟩
    · exact ⟨eqGuard_int, bin32_run hz⟩
    · exact ⟨eqGuard_int, bin8_run hz⟩
    · exact ⟨eqGuard_int, bin16_run hz⟩
    · exact ⟨eqGuard_int, cmpI_run hz⟩
    · cases hz
  simp [execOp, e1, e2, Sem.run_bind, key.1, key.2]
theorem rd_iadd {t t' : TypeId} {p q : Operand} {x y : Int} (hx : ev L p = some (.i64 x)) (hy : ev L q = some (.i64 y)) (hb : -9223372036854775808 ≤ x + y ∧ x + y ≤ 9223372036854775807) : Rd P ⟨d, .binOp .add t p q t', ty, ps, af, gd⟩ n c L (.i64 (x + y)) := by
  refine ⟨fun a he w _ => ?_⟩
  simp only [execOp, ev_spec he hx, ev_spec he hy, TV.v, Sem.run_bind, eqGuard_int, Result.andThen_ok]
  show Result.ok (Next.value (Value.int .i64 (IntKind.i64.wrap (x + y)))) w = _
  rw [wrap_i64 hb]
theorem rd_isub {t t' : TypeId} {p q : Operand} {x y : Int} (hx : ev L p = some (.i64 x)) (hy : ev L q = some (.i64 y)) (hb : -9223372036854775808 ≤ x - y ∧ x - y ≤ 9223372036854775807) : Rd P ⟨d, .binOp .sub t p q t', ty, ps, af, gd⟩ n c L (.i64 (x - y)) := by
  refine ⟨fun a he w _ => ?_⟩
  simp only [execOp, ev_spec he hx, ev_spec he hy, TV.v, Sem.run_bind, eqGuard_int, Result.andThen_ok]
  show Result.ok (Next.value (Value.int .i64 (IntKind.i64.wrap (x - y)))) w = _
  rw [wrap_i64 hb]
theorem rd_imul {t t' : TypeId} {p q : Operand} {x y : Int} (hx : ev L p = some (.i64 x)) (hy : ev L q = some (.i64 y)) (hb : -9223372036854775808 ≤ x * y ∧ x * y ≤ 9223372036854775807) : Rd P ⟨d, .binOp .mul t p q t', ty, ps, af, gd⟩ n c L (.i64 (x * y)) := by
  refine ⟨fun a he w _ => ?_⟩
  simp only [execOp, ev_spec he hx, ev_spec he hy, TV.v, Sem.run_bind, eqGuard_int, Result.andThen_ok]
  show Result.ok (Next.value (Value.int .i64 (IntKind.i64.wrap (x * y)))) w = _
  rw [wrap_i64 hb]
theorem rd_iquo {t t' : TypeId} {p q : Operand} {x y : Int} (hx : ev L p = some (.i64 x)) (hy : ev L q = some (.i64 y)) (hb : 0 ≤ x ∧ x ≤ 9223372036854775807 ∧ 0 < y) : Rd P ⟨d, .binOp .quo t p q t', ty, ps, af, gd⟩ n c L (.i64 (x / y)) := by
  refine ⟨fun a he w _ => ?_⟩
  simp only [execOp, ev_spec he hx, ev_spec he hy, TV.v, Sem.run_bind, eqGuard_int, Result.andThen_ok]
  have e : (binOp .quo t (.int .i64 x) (.int .i64 y)).run P w = .ok (.int .i64 (x / y)) w := by
    show ((if y = 0 then _ else pure (Value.int .i64 (IntKind.i64.wrap (x.tdiv y))) : Sem Value)).run P w = _
    rw [if_neg (by omega), Int.tdiv_eq_ediv_of_nonneg hb.1, wrap_i64 ⟨by have := Int.ediv_nonneg hb.1 (show 0 ≤ y by omega); omega, by have := Int.ediv_le_self y hb.1; omega⟩]
    rfl
  rw [e]; rfl
theorem rd_irem {t t' : TypeId} {p q : Operand} {x y : Int} (hx : ev L p = some (.i64 x)) (hy : ev L q = some (.i64 y)) (hb : 0 ≤ x ∧ 0 < y) : Rd P ⟨d, .binOp .rem t p q t', ty, ps, af, gd⟩ n c L (.i64 (x % y)) := by
  refine ⟨fun a he w _ => ?_⟩
  simp only [execOp, ev_spec he hx, ev_spec he hy, TV.v, Sem.run_bind, eqGuard_int, Result.andThen_ok]
  have e : (binOp .rem t (.int .i64 x) (.int .i64 y)).run P w = .ok (.int .i64 (x % y)) w := by
    show ((if y = 0 then _ else pure (Value.int .i64 (x.tmod y)) : Sem Value)).run P w = _
    rw [if_neg (by omega), Int.tmod_eq_emod_of_nonneg hb.1]
    rfl
  rw [e]; rfl
def shl64 (x : UInt64) (k : Nat) : UInt64 := UInt64.ofNat (x.toNat * 2 ^ k)
def shr64 (x : UInt64) (k : Nat) : UInt64 := UInt64.ofNat (x.toNat / 2 ^ k)
def shl32 (x : UInt32) (k : Nat) : UInt32 := UInt32.ofNat (x.toNat * 2 ^ k)
def shr32 (x : UInt32) (k : Nat) : UInt32 := UInt32.ofNat (x.toNat / 2 ^ k)
def shl8 (x : UInt8) (k : Nat) : UInt8 := UInt8.ofNat (x.toNat * 2 ^ k)
def shr8 (x : UInt8) (k : Nat) : UInt8 := UInt8.ofNat (x.toNat / 2 ^ k)
theorem shl64_toNat (x : UInt64) (k : Nat) : (shl64 x k).toNat = x.toNat * 2 ^ k % 18446744073709551616 := by simp [shl64, UInt64.toNat_ofNat']
theorem shl32_toNat (x : UInt32) (k : Nat) : (shl32 x k).toNat = x.toNat * 2 ^ k % 4294967296 := by simp [shl32, UInt32.toNat_ofNat']
theorem shl8_toNat (x : UInt8) (k : Nat) : (shl8 x k).toNat = x.toNat * 2 ^ k % 256 := by simp [shl8, UInt8.toNat_ofNat']
theorem shr64_toNat (x : UInt64) (k : Nat) : (shr64 x k).toNat = x.toNat / 2 ^ k := by
  have := x.toNat_lt
  have := Nat.div_le_self x.toNat (2 ^ k)
  simp only [shr64, UInt64.toNat_ofNat']
  exact Nat.mod_eq_of_lt (by omega)
theorem shr32_toNat (x : UInt32) (k : Nat) : (shr32 x k).toNat = x.toNat / 2 ^ k := by
  have := x.toNat_lt
  have := Nat.div_le_self x.toNat (2 ^ k)
  simp only [shr32, UInt32.toNat_ofNat']
  exact Nat.mod_eq_of_lt (by omega)
theorem shr8_toNat (x : UInt8) (k : Nat) : (shr8 x k).toNat = x.toNat / 2 ^ k := by
  have := x.toNat_lt
  have := Nat.div_le_self x.toNat (2 ^ k)
  simp only [shr8, UInt8.toNat_ofNat']
  exact Nat.mod_eq_of_lt (by omega)
def cntTV : TV → Option Int
  | .i64 z => some z | .u64 x => some x.toNat | .u32 x => some x.toNat | .u16 x => some x.toNat | .u8 x => some x.toNat | _ => none
theorem cntTV_v {y : TV} {z : Int} (h : cntTV y = some z) : ∃ k, y.v = .int k z := by
  cases y <;> simp only [cntTV, Option.some.injEq, reduceCtorEq] at h <;> subst h <;> exact ⟨_, rfl⟩
def shTV (op : BinOp) (k : Nat) : TV → Option TV
  | .u64 x => match op with | .shl => some (.u64 (shl64 x k)) | .shr => some (.u64 (shr64 x k)) | _ => none
  | .u32 x => match op with | .shl => some (.u32 (shl32 x k)) | .shr => some (.u32 (shr32 x k)) | _ => none
  | .u8 x => match op with | .shl => some (.u8 (shl8 x k)) | .shr => some (.u8 (shr8 x k)) | _ => none
  | _ => none
theorem min_pow_mul {x b k : Nat} : x * 2 ^ (min k b) % 2 ^ b = x * 2 ^ k % 2 ^ b := by
  by_cases h : k ≤ b
  · rw [Nat.min_eq_left h]
  · rw [Nat.min_eq_right (by omega), Nat.mul_mod_left]
    have : k = b + (k - b) := by omega
    rw [this, Nat.pow_add, ← Nat.mul_assoc, Nat.mul_right_comm, Nat.mul_mod_left]
theorem min_pow_div {x b k : Nat} (hx : x < 2 ^ b) : x / 2 ^ (min k b) = x / 2 ^ k := by
  by_cases h : k ≤ b
  · rw [Nat.min_eq_left h]
  · rw [Nat.min_eq_right (by omega), Nat.div_eq_of_lt hx, Nat.div_eq_of_lt (Nat.lt_of_lt_of_le hx (Nat.pow_le_pow_right (by omega) (by omega)))]
theorem sh8_run {P : Program} {op : BinOp} {x : UInt8} {kk : IntKind} {z : Int} {w : World} {r : TV} {t : TypeId} (h : shTV op z.toNat (.u8 x) = some r) (hz : 0 ≤ z) : (binOp op t (.int .u8 x.toNat) (.int kk z)).run P w = .ok r.v w := by
  have hx := x.toNat_lt
  cases op <;> simp only [shTV, Option.some.injEq, reduceCtorEq] at h <;> subst h
  case shl =>
    show ((if z < 0 then _ else pure (Value.int .u8 (IntKind.u8.wrap ((x.toNat : Int) * 2 ^ (min z.toNat 8)))) : Sem Value)).run P w = _
    rw [if_neg (by omega), wrap_u8, Sem.run_pure]
    simp only [TV.v, Result.ok.injEq, Value.int.injEq, true_and, and_true, shl8_toNat]
    have := @min_pow_mul x.toNat 8 z.toNat
    simp only [Nat.reducePow] at this
    rw [← this]; simp
  case shr =>
    show ((if z < 0 then _ else pure (Value.int .u8 ((x.toNat : Int).fdiv (2 ^ (min z.toNat 8)))) : Sem Value)).run P w = _
    rw [if_neg (by omega), Sem.run_pure]
    simp only [TV.v, Result.ok.injEq, Value.int.injEq, true_and, and_true, shr8_toNat]
    rw [← @min_pow_div x.toNat 8 z.toNat hx, Int.fdiv_eq_ediv_of_nonneg _ (by exact_mod_cast Nat.zero_le _)]
    simp
theorem sh32_run {P : Program} {op : BinOp} {x : UInt32} {kk : IntKind} {z : Int} {w : World} {r : TV} {t : TypeId} (h : shTV op z.toNat (.u32 x) = some r) (hz : 0 ≤ z) : (binOp op t (.int .u32 x.toNat) (.int kk z)).run P w = .ok r.v w := by
  have hx := x.toNat_lt
  cases op <;> simp only [shTV, Option.some.injEq, reduceCtorEq] at h <;> subst h
  case shl =>
    show ((if z < 0 then _ else pure (Value.int .u32 (IntKind.u32.wrap ((x.toNat : Int) * 2 ^ (min z.toNat 32)))) : Sem Value)).run P w = _
    rw [if_neg (by omega), wrap_u32, Sem.run_pure]
    simp only [TV.v, Result.ok.injEq, Value.int.injEq, true_and, and_true, shl32_toNat]
    have := @min_pow_mul x.toNat 32 z.toNat
    simp only [Nat.reducePow] at this
    rw [← this]; simp
  case shr =>
    show ((if z < 0 then _ else pure (Value.int .u32 ((x.toNat : Int).fdiv (2 ^ (min z.toNat 32)))) : Sem Value)).run P w = _
    rw [if_neg (by omega), Sem.run_pure]
    simp only [TV.v, Result.ok.injEq, Value.int.injEq, true_and, and_true, shr32_toNat]
    rw [← @min_pow_div x.toNat 32 z.toNat hx, Int.fdiv_eq_ediv_of_nonneg _ (by exact_mod_cast Nat.zero_le _)]
    simp
theorem sh64_run {P : Program} {op : BinOp} {x : UInt64} {kk : IntKind} {z : Int} {w : World} {r : TV} {t : TypeId} (h : shTV op z.toNat (.u64 x) = some r) (hz : 0 ≤ z) : (binOp op t (.int .u64 x.toNat) (.int kk z)).run P w = .ok r.v w := by
  have hx := x.toNat_lt
  cases op <;> simp only [shTV, Option.some.injEq, reduceCtorEq] at h <;> subst h
  case shl =>
    show ((if z < 0 then _ else pure (Value.int .u64 (IntKind.u64.wrap ((x.toNat : Int) * 2 ^ (min z.toNat 64)))) : Sem Value)).run P w = _
    rw [if_neg (by omega), wrap_u64, Sem.run_pure]
    simp only [TV.v, Result.ok.injEq, Value.int.injEq, true_and, and_true, shl64_toNat]
    have := @min_pow_mul x.toNat 64 z.toNat
    simp only [Nat.reducePow] at this
    rw [← this]; simp
  case shr =>
    show ((if z < 0 then _ else pure (Value.int .u64 ((x.toNat : Int).fdiv (2 ^ (min z.toNat 64)))) : Sem Value)).run P w = _
    rw [if_neg (by omega), Sem.run_pure]
    simp only [TV.v, Result.ok.injEq, Value.int.injEq, true_and, and_true, shr64_toNat]
    rw [← @min_pow_div x.toNat 64 z.toNat hx, Int.fdiv_eq_ediv_of_nonneg _ (by exact_mod_cast Nat.zero_le _)]
    simp
theorem rd_shift {op : BinOp} {t t' : TypeId} {p q : Operand} {x y r : TV} {z : Int} (hx : ev L p = some x) (hy : ev L q = some y) (hz : cntTV y = some z) (hop : op = .shl ∨ op = .shr) (hr : shTV op z.toNat x = some r) (h0 : 0 ≤ z) : Rd P ⟨d, .binOp op t p q t', ty, ps, af, gd⟩ n c L r := by
  refine ⟨fun a he w _ => ?_⟩
  obtain ⟨kk, hk⟩ := cntTV_v hz
  have e1 := ev_spec he hx
  have e2 := ev_spec he hy
  rw [hk] at e2
  have key : (binOp op t x.v (.int kk z)).run P w = .ok r.v w := by
    cases x <;> simp only [shTV, reduceCtorEq] at hr
    · exact sh8_run hr h0
    · exact sh32_run hr h0
    · exact sh64_run hr h0
  have g : (eqGuard op t p q x.v (.int kk z)).run P w = .ok () w := by
    unfold eqGuard
    rcases hop with rfl | rfl <;> simp
  simp [execOp, e1, e2, Sem.run_bind, g, key]
theorem rd_ishl {t t' : TypeId} {p q : Operand} {x : Int} {y : TV} {z : Int} (hx : ev L p = some (.i64 x)) (hy : ev L q = some y) (hz : cntTV y = some z) (h0 : 0 ≤ z ∧ z ≤ 64) (hb : -9223372036854775808 ≤ x * 2 ^ z.toNat ∧ x * 2 ^ z.toNat ≤ 9223372036854775807) :
    Rd P ⟨d, .binOp .shl t p q t', ty, ps, af, gd⟩ n c L (.i64 (x * 2 ^ z.toNat)) := by
  refine ⟨fun a he w _ => ?_⟩
  obtain ⟨kk, hk⟩ := cntTV_v hz
  have e1 := ev_spec he hx
  have e2 := ev_spec he hy
  rw [hk] at e2
  have key : (binOp .shl t (.int .i64 x) (.int kk z)).run P w = .ok (.int .i64 (x * 2 ^ z.toNat)) w := by
    show ((if z < 0 then _ else pure (Value.int .i64 (IntKind.i64.wrap (x * 2 ^ (min z.toNat 64)))) : Sem Value)).run P w = _
    rw [if_neg (by omega), Nat.min_eq_left (by omega), wrap_i64 hb]; rfl
  have g : (eqGuard .shl t p q (.int .i64 x) (.int kk z)).run P w = .ok () w := by unfold eqGuard; simp
  simp [execOp, e1, e2, TV.v, Sem.run_bind, g, key]
def unTV (op : UnOp) : TV → Option TV
  | .b x => match op with | .not => some (.b (!x)) | _ => none
  | .u32 x => match op with | .neg => some (.u32 (0 - x)) | .xor => some (.u32 (~~~x)) | _ => none
  | .u64 x => match op with | .neg => some (.u64 (0 - x)) | .xor => some (.u64 (~~~x)) | _ => none
  | _ => none
theorem rd_un {op : UnOp} {t : TypeId} {p : Operand} {x z : TV} (hx : ev L p = some x) (hz : unTV op x = some z) : Rd P ⟨d, .unOp op t p, ty, ps, af, gd⟩ n c L z := by
  refine ⟨fun a he w _ => ?_⟩
  have e1 := ev_spec he hx
  have key : (Op.unary op x.v).run P w = .ok z.v w := by
    cases x <;> cases op <;> simp only [unTV, Option.some.injEq, reduceCtorEq] at hz <;> subst hz
    · rfl
    · rename_i x
      show Result.ok (Value.int .u32 (IntKind.u32.wrap (0 - (x.toNat : Int)))) w = _
      rw [wrap_u32]; simp only [TV.v, UInt32.toNat_sub]
      have := x.toNat_lt
      congr 2
      simp
      omega
    · rename_i x
      show Result.ok (Value.int .u32 (IntKind.u32.wrap ((BitVec.ofInt 32 4294967295 ^^^ BitVec.ofInt 32 ↑x.toNat).toNat : Int))) w = _
      rw [back32, ofInt32]
      have : BitVec.ofInt 32 4294967295 = BitVec.allOnes 32 := by decide
      rw [this, BitVec.allOnes_xor]; rfl
    · rename_i x
      show Result.ok (Value.int .u64 (IntKind.u64.wrap (0 - (x.toNat : Int)))) w = _
      rw [wrap_u64]; simp only [TV.v, UInt64.toNat_sub]
      have := x.toNat_lt
      congr 2
      simp
      omega
    · rename_i x
      show Result.ok (Value.int .u64 (IntKind.u64.wrap ((BitVec.ofInt 64 18446744073709551615 ^^^ BitVec.ofInt 64 ↑x.toNat).toNat : Int))) w = _
      rw [back64, ofInt64]
      have : BitVec.ofInt 64 18446744073709551615 = BitVec.allOnes 64 := by decide
      rw [this, BitVec.allOnes_xor]; rfl
  simp [execOp, e1, Sem.run_bind, key]
theorem rd_div64 {op : BinOp} {t t' : TypeId} {p q : Operand} {x y : UInt64} {z : UInt64} (hx : ev L p = some (.u64 x)) (hy : ev L q = some (.u64 y)) (hop : (op = .quo ∧ z = x / y) ∨ (op = .rem ∧ z = x % y)) (h0 : y ≠ 0) : Rd P ⟨d, .binOp op t p q t', ty, ps, af, gd⟩ n c L (.u64 z) := by
  refine ⟨fun a he w _ => ?_⟩
  have hn : ¬ (y.toNat : Int) = 0 := fun e => h0 (by apply UInt64.toNat_inj.1; simpa using e)
  have key : (binOp op t (.int .u64 x.toNat) (.int .u64 y.toNat)).run P w = .ok (.int .u64 z.toNat) w := by
    have hx' := x.toNat_lt
    rcases hop with ⟨rfl, rfl⟩ | ⟨rfl, rfl⟩
    · show ((if (y.toNat : Int) = 0 then _ else pure (Value.int .u64 (IntKind.u64.wrap ((x.toNat : Int).tdiv y.toNat))) : Sem Value)).run P w = _
      rw [if_neg hn, wrap_u64, Int.tdiv_eq_ediv_of_nonneg (by omega), Sem.run_pure, UInt64.toNat_div]
      have := Nat.div_le_self x.toNat y.toNat
      congr 2
      rw [← Int.natCast_ediv]
      generalize x.toNat / y.toNat = q at *
      omega
    · show ((if (y.toNat : Int) = 0 then _ else pure (Value.int .u64 ((x.toNat : Int).tmod y.toNat)) : Sem Value)).run P w = _
      rw [if_neg hn, Int.tmod_eq_emod_of_nonneg (by omega), Sem.run_pure, UInt64.toNat_mod]
      simp
  simp [execOp, ev_spec he hx, ev_spec he hy, TV.v, Sem.run_bind, eqGuard_int, key]
theorem rd_div32 {op : BinOp} {t t' : TypeId} {p q : Operand} {x y : UInt32} {z : UInt32} (hx : ev L p = some (.u32 x)) (hy : ev L q = some (.u32 y)) (hop : (op = .quo ∧ z = x / y) ∨ (op = .rem ∧ z = x % y)) (h0 : y ≠ 0) : Rd P ⟨d, .binOp op t p q t', ty, ps, af, gd⟩ n c L (.u32 z) := by
  refine ⟨fun a he w _ => ?_⟩
  have hn : ¬ (y.toNat : Int) = 0 := fun e => h0 (by apply UInt32.toNat_inj.1; simpa using e)
  have key : (binOp op t (.int .u32 x.toNat) (.int .u32 y.toNat)).run P w = .ok (.int .u32 z.toNat) w := by
    have hx' := x.toNat_lt
    rcases hop with ⟨rfl, rfl⟩ | ⟨rfl, rfl⟩
    · show ((if (y.toNat : Int) = 0 then _ else pure (Value.int .u32 (IntKind.u32.wrap ((x.toNat : Int).tdiv y.toNat))) : Sem Value)).run P w = _
      rw [if_neg hn, wrap_u32, Int.tdiv_eq_ediv_of_nonneg (by omega), Sem.run_pure, UInt32.toNat_div]
      have := Nat.div_le_self x.toNat y.toNat
      congr 2
      rw [← Int.natCast_ediv]
      generalize x.toNat / y.toNat = q at *
      omega
    · show ((if (y.toNat : Int) = 0 then _ else pure (Value.int .u32 ((x.toNat : Int).tmod y.toNat)) : Sem Value)).run P w = _
      rw [if_neg hn, Int.tmod_eq_emod_of_nonneg (by omega), Sem.run_pure, UInt32.toNat_mod]
      simp
  simp [execOp, ev_spec he hx, ev_spec he hy, TV.v, Sem.run_bind, eqGuard_int, key]
theorem rd_div8 {op : BinOp} {t t' : TypeId} {p q : Operand} {x y : UInt8} {z : UInt8} (hx : ev L p = some (.u8 x)) (hy : ev L q = some (.u8 y)) (hop : (op = .quo ∧ z = x / y) ∨ (op = .rem ∧ z = x % y)) (h0 : y ≠ 0) : Rd P ⟨d, .binOp op t p q t', ty, ps, af, gd⟩ n c L (.u8 z) := by
  refine ⟨fun a he w _ => ?_⟩
  have hn : ¬ (y.toNat : Int) = 0 := fun e => h0 (by apply UInt8.toNat_inj.1; simpa using e)
  have key : (binOp op t (.int .u8 x.toNat) (.int .u8 y.toNat)).run P w = .ok (.int .u8 z.toNat) w := by
    have hx' := x.toNat_lt
    rcases hop with ⟨rfl, rfl⟩ | ⟨rfl, rfl⟩
    · show ((if (y.toNat : Int) = 0 then _ else pure (Value.int .u8 (IntKind.u8.wrap ((x.toNat : Int).tdiv y.toNat))) : Sem Value)).run P w = _
      rw [if_neg hn, wrap_u8, Int.tdiv_eq_ediv_of_nonneg (by omega), Sem.run_pure, UInt8.toNat_div]
      have := Nat.div_le_self x.toNat y.toNat
      congr 2
      rw [← Int.natCast_ediv]
      generalize x.toNat / y.toNat = q at *
      omega
    · show ((if (y.toNat : Int) = 0 then _ else pure (Value.int .u8 ((x.toNat : Int).tmod y.toNat)) : Sem Value)).run P w = _
      rw [if_neg hn, Int.tmod_eq_emod_of_nonneg (by omega), Sem.run_pure, UInt8.toNat_mod]
      simp
  simp [execOp, ev_spec he hx, ev_spec he hy, TV.v, Sem.run_bind, eqGuard_int, key]
def cvTV (k : IntKind) : TV → Option TV
  | .u8 x => match k with | .u8 => some (.u8 x) | .u16 => some (.u16 x.toUInt16) | .u32 => some (.u32 x.toUInt32) | .u64 => some (.u64 x.toUInt64) | .i64 => some (.i64 x.toNat) | _ => none
  | .u16 x => match k with | .u8 => some (.u8 x.toUInt8) | .u16 => some (.u16 x) | .u32 => some (.u32 x.toUInt32) | .u64 => some (.u64 x.toUInt64) | .i64 => some (.i64 x.toNat) | _ => none
  | .u32 x => match k with | .u8 => some (.u8 x.toUInt8) | .u16 => some (.u16 x.toUInt16) | .u32 => some (.u32 x) | .u64 => some (.u64 x.toUInt64) | .i64 => some (.i64 x.toNat) | _ => none
  | .u64 x => match k with | .u8 => some (.u8 x.toUInt8) | .u16 => some (.u16 x.toUInt16) | .u32 => some (.u32 x.toUInt32) | .u64 => some (.u64 x) | _ => none
  | .i64 z => match k with | .u8 => some (.u8 (UInt8.ofInt z)) | .u16 => some (.u16 (UInt16.ofInt z)) | .u32 => some (.u32 (UInt32.ofInt z)) | .u64 => some (.u64 (UInt64.ofInt z)) | _ => none
  | _ => none
theorem conv_int {src dst : TypeId} {k k' : IntKind} {z : Int} {w : World} {dsrc : TypeDesc} (hs : P.underlying src = some dsrc) (hd : P.underlying dst = some (.int k)) : (convert src dst (.int k' z)).run P w = .ok (.int k (k.wrap z)) w := by
  have e1 : (underlying src).run P w = .ok dsrc w := by simp [underlying, program, Sem.run, hs, go_sem]
  have e2 : (underlying dst).run P w = .ok (.int k) w := by simp [underlying, program, Sem.run, hd, go_sem]
  simp [convert, Sem.run_bind, e1, e2, Conv.intToInt]
theorem ofInt_toNat64 (z : Int) : ((UInt64.ofInt z).toNat : Int) = z % 18446744073709551616 := by
  simp only [UInt64.ofInt, UInt64.toNat_ofNat']; omega
theorem ofInt_toNat32 (z : Int) : ((UInt32.ofInt z).toNat : Int) = z % 4294967296 := by
  simp only [UInt32.ofInt, UInt32.toNat_ofNat']; omega
theorem ofInt_toNat16 (z : Int) : ((UInt16.ofInt z).toNat : Int) = z % 65536 := by
  simp only [UInt16.ofInt, UInt16.toNat_ofNat']; omega
theorem ofInt_toNat8 (z : Int) : ((UInt8.ofInt z).toNat : Int) = z % 256 := by
  simp only [UInt8.ofInt, UInt8.toNat_ofNat']; omega
theorem rd_conv {src dst : TypeId} {p : Operand} {x y : TV} {k : IntKind} {dsrc : TypeDesc} (hs : P.underlying src = some dsrc) (hd : P.underlying dst = some (.int k)) (hx : ev L p = some x) (hy : cvTV k x = some y) :
    Rd P ⟨d, .convert src dst p, ty, ps, af, gd⟩ n c L y := by
  refine ⟨fun a he w _ => ?_⟩
  have key : (convert src dst x.v).run P w = .ok y.v w := by
    cases x <;> simp only [cvTV, reduceCtorEq] at hy <;> cases k <;> simp only [Option.some.injEq, reduceCtorEq] at hy <;> subst hy <;> rename_i x <;> simp only [TV.v] <;> rw [conv_int hs hd]
    all_goals simp only [Result.ok.injEq, Value.int.injEq, true_and, and_true, wrap_u8, wrap_u16, wrap_u32, wrap_u64, ofInt_toNat8, ofInt_toNat16, ofInt_toNat32, ofInt_toNat64, UInt8.toNat_toUInt16, UInt8.toNat_toUInt32, UInt8.toNat_toUInt64, UInt16.toNat_toUInt8, UInt16.toNat_toUInt32, UInt16.toNat_toUInt64, UInt32.toNat_toUInt8, UInt32.toNat_toUInt16, UInt32.toNat_toUInt64, UInt64.toNat_toUInt8, UInt64.toNat_toUInt16, UInt64.toNat_toUInt32]
    all_goals have hl := x.toNat_lt
    all_goals first | omega | (rw [wrap_i64 (by omega)]) | (exact_mod_cast rfl)
  simp [execOp, ev_spec he hx, Sem.run_bind, key]
theorem rd_convi {src dst : TypeId} {p : Operand} {x : UInt64} {dsrc : TypeDesc} (hs : P.underlying src = some dsrc) (hd : P.underlying dst = some (.int .i64)) (hx : ev L p = some (.u64 x)) (hb : x.toNat ≤ 9223372036854775807) :
    Rd P ⟨d, .convert src dst p, ty, ps, af, gd⟩ n c L (.i64 x.toNat) := by
  refine ⟨fun a he w _ => ?_⟩
  have key : (convert src dst (.int .u64 x.toNat)).run P w = .ok (.int .i64 x.toNat) w := by rw [conv_int hs hd, wrap_i64 (by omega)]
  simp [execOp, ev_spec he hx, TV.v, Sem.run_bind, key]
theorem rd_convw {src dst : TypeId} {p : Operand} {x : UInt64} {dsrc : TypeDesc} (hs : P.underlying src = some dsrc) (hd : P.underlying dst = some (.int .i64)) (hx : ev L p = some (.u64 x)) :
    Rd P ⟨d, .convert src dst p, ty, ps, af, gd⟩ n c L (.i64 (IntKind.i64.wrap x.toNat)) := by
  refine ⟨fun a he w _ => ?_⟩
  simp [execOp, ev_spec he hx, TV.v, Sem.run_bind, conv_int hs hd]
theorem rd_convii {src dst : TypeId} {p : Operand} {z : Int} {dsrc : TypeDesc} (hs : P.underlying src = some dsrc) (hd : P.underlying dst = some (.int .i64)) (hx : ev L p = some (.i64 z)) (hb : -9223372036854775808 ≤ z ∧ z ≤ 9223372036854775807) :
    Rd P ⟨d, .convert src dst p, ty, ps, af, gd⟩ n c L (.i64 z) := by
  refine ⟨fun a he w _ => ?_⟩
  have key : (convert src dst (.int .i64 z)).run P w = .ok (.int .i64 z) w := by rw [conv_int hs hd, wrap_i64 hb]
  simp [execOp, ev_spec he hx, TV.v, Sem.run_bind, key]
end
end Go.Hb
