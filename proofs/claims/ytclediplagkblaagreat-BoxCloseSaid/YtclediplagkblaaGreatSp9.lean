/- A part of the proofs of this seat: rules of a logic of owned and of lent memory, what functions compute, or their walks. -/
import Derived.Test.YtclediplagkblaaGreatSp8
set_option linter.unusedVariables false
set_option linter.unusedSimpArgs false
namespace Go.Hb
open Go
structure Sm where
  An : Option Addr
  cn : Nat
  nm : List UInt8
  k : UInt8
  Ap : Option Addr
  cp : Nat
  pl : List UInt8
def Sm.tv (s : Sm) : List TV := [.sl s.An s.nm.length s.cn, .u8 s.k, .sl s.Ap s.pl.length s.cp]
def Sm.frm (s : Sm) : Frm := ⟨110 :: s.nm, s.k % 6, s.Ap, s.cp, s.pl⟩
def Sm.ok (o : Hp) (s : Sm) : Prop := RS o 1 s.An s.nm.length s.cn (s.nm.map .u8) ∧ RS o 1 s.Ap s.pl.length s.cp (s.pl.map .u8)
theorem Sm.ok.mono {o o' : Hp} {s : Sm} (h : s.ok o) (hl : o.le o') : s.ok o' := ⟨h.1.mono hl, h.2.mono hl⟩
end Go.Hb
