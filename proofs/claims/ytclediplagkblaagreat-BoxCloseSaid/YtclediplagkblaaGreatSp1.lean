/- A part of the proofs of this seat: rules of a logic of owned and of lent memory, what functions compute, or their walks. -/
import Derived.Test.YtclediplagkblaaGreatCore12
set_option linter.unusedVariables false
set_option linter.unusedSimpArgs false
namespace Go.Hb
def crcBit (n : UInt32) : UInt32 := shr32 n 1 ^^^ (2197175160 &&& (0 - (n &&& 1)))
def crcBits : Nat → UInt32 → UInt32
  | 0, n => n
  | k + 1, n => crcBit (crcBits k n)
def crcTab (i : Nat) : UInt32 := crcBits 8 (UInt32.ofInt (i : Int))
def crcTabTV : List TV := (List.range 256).map fun i => .u32 (crcTab i)
def crcPart (k : Nat) : List TV := ((List.range k).map fun i => TV.u32 (crcTab i)) ++ List.replicate (256 - k) (.u32 0)
theorem crcPart_all : crcPart 256 = crcTabTV := by unfold crcPart crcTabTV; simp
theorem crcPart_zero : crcPart 0 = List.replicate 256 (.u32 0) := rfl
theorem crcPart_succ (k : Nat) (hk : k < 256) : crcPart (k + 1) = (crcPart k).set (0 + k) (.u32 (crcBits 8 (UInt32.ofInt (k : Int)))) := by
  rw [Nat.zero_add]; change _ = (crcPart k).set k (.u32 (crcTab k))
  unfold crcPart
  rw [List.range_succ, List.map_append, show 256 - k = (256 - (k + 1)) + 1 by omega, List.replicate_succ]
  rw [List.set_append_right _ _ (by simp)]
  simp
theorem crcPart_get (k : Nat) (hk : k < 256) : (crcPart k)[k]? = some (.u32 0) := by
  unfold crcPart
  rw [List.getElem?_append_right (by simp), List.getElem?_replicate]
  simp; omega
def crcStep (n : UInt32) (b : UInt8) : UInt32 := shr32 n 8 ^^^ crcTab (n.toUInt8 ^^^ b).toNat
def crcFold (bs : List UInt8) : UInt32 := bs.foldl crcStep 4294967295
def crcSum (bs : List UInt8) : UInt32 := ~~~(crcFold bs)
theorem crcFold_snoc (bs : List UInt8) (b : UInt8) : crcFold (bs ++ [b]) = crcStep (crcFold bs) b := by simp [crcFold]
theorem crcTab_get (b : UInt8) : crcTabTV[0 + ((b.toNat : Int)).toNat * 1]? = some (.u32 (crcTab b.toNat)) := by
  have := b.toNat_lt
  simp [crcTabTV, show b.toNat < 256 by omega]
theorem crc_ix (n b : UInt8) : ((n ^^^ b).toNat : Int) < ((256 : Nat) : Int) := by have := (n ^^^ b).toNat_lt; omega
end Go.Hb
