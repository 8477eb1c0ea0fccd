/- A part of the proofs of this seat: rules of a logic of owned and of lent memory, what functions compute, or their walks. -/
import Derived.Test.YtclediplagkblaaGreatCore14
import Derived.Test.YtclediplagkblaaGreatSp1
set_option linter.unusedVariables false
set_option linter.unusedSimpArgs false
namespace Go.Hb
open Go
def Wr (g : Nat) (bs : List UInt8) : Res := Exr fun p : Option Addr × Nat => [Blk g 157 [.sl p.1 bs.length p.2], Row 1 5 p.1 bs.length p.2 (bs.map .u8)]
theorem wr_mk {g : Nat} {bs : List UInt8} {A : Option Addr} {cp n : Nat} {xs : List TV} (hn : n = bs.length) (hx : xs = bs.map .u8) : ∀ h, Star [Blk g 157 [.sl A n cp], Row 1 5 A n cp xs] h → Wr g bs h := by
  subst hn; subst hx; exact fun h s => ⟨(A, cp), s⟩
section
variable {P : Program} {n : Nat} {c : Cx} {L : List (Nat × TV)} {H : List Res} {Q : Exit → Act → World → Prop}
theorem C_openWr {code} {g : Nat} {bs : List UInt8} {G : List Res} (is : List Nat) (hp : pickR H is = some ([Wr g bs], G)) (h : ∀ A cp, C P code Q n c L (Blk g 157 [.sl A bs.length cp] :: Row 1 5 A bs.length cp (bs.map .u8) :: G)) : C P code Q n c L H := C_open is hp fun p => h p.1 p.2
end
def wordB (n : UInt32) : List UInt8 := [n.toUInt8, (shr32 n 8).toUInt8, (shr32 n 16).toUInt8, (shr32 n 24).toUInt8]
theorem wordB_length (n : UInt32) : (wordB n).length = 4 := rfl
def crcB (bs : List UInt8) : List UInt8 := bs ++ wordB (crcSum bs)
theorem crcB_length (bs : List UInt8) : (crcB bs).length = bs.length + 4 := by simp [crcB, wordB_length]
def uvarF : Nat → UInt64 → List UInt8
  | 0, n => [n.toUInt8]
  | f + 1, n => if 128 ≤ n then (n.toUInt8 ||| 128) :: uvarF f (shr64 n 7) else [n.toUInt8]
def uvar (n : UInt64) : List UInt8 := uvarF 9 n
end Go.Hb
