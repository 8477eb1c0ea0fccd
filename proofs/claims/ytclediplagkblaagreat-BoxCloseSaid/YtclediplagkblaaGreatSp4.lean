/- A part of the proofs of this seat: rules of a logic of owned and of lent memory, what functions compute, or their walks. -/
import Derived.Test.YtclediplagkblaaGreatSp3
set_option linter.unusedVariables false
set_option linter.unusedSimpArgs false
namespace Go.Hb
open Go
structure Frm where
  nm : List UInt8
  kd : UInt8
  A : Option Addr
  cp : Nat
  pl : List UInt8
def Frm.tv (f : Frm) : List TV := [.str f.nm, .u8 f.kd, .sl f.A f.pl.length f.cp]
def Frm.chk (f : Frm) : Int := frameChk f.nm f.kd f.pl.length
def Frm.bytes (f : Frm) : List UInt8 := frameB f.nm f.kd f.pl
def magic : List UInt8 := [72, 69, 82, 66, 49, 10]
def footB (at_ n : Nat) : List UInt8 := crcB (wordB (UInt32.ofInt (at_ : Int)) ++ wordB (UInt32.ofInt (n : Int)))
def closeEnd (kk : Int) (out : List UInt8) (es : List Ent) : Int × List UInt8 :=
  if indexChk es ≠ 0 then (indexChk es, []) else if kk < ((out ++ indexB es ++ footB out.length (indexB es).length).length : Int) then (6, []) else (0, out ++ indexB es ++ footB out.length (indexB es).length)
def closeGo (kk : Int) : List Frm → List UInt8 → List Ent → Int × List UInt8
  | [], out, es => closeEnd kk out es
  | f :: l, out, es => if f.chk ≠ 0 then (f.chk, []) else if kk < (out.length : Int) + (f.bytes.length : Int) then (6, []) else closeGo kk l (out ++ f.bytes) (es ++ [⟨f.nm, (out.length : Int), (f.bytes.length : Int)⟩])
def closeB (l : List Frm) (a b : Int) : Int × List UInt8 := if min (max a 0) 1000 < (l.length : Int) then (7, []) else closeGo (min (max b 0) 1048576) l magic []
structure CG where
  k : Nat
  out : List UInt8
  es : List Ent
  A : Option Addr
  cp : Nat
structure CI (l : List Frm) (kk : Int) (g : CG) : Prop where
  le : g.k ≤ l.length
  el : g.es.length = g.k
  ol : g.out.length ≤ 1048582
  eq : closeGo kk (l.drop g.k) g.out g.es = closeGo kk l magic []
theorem CI.init (l : List Frm) (kk : Int) : CI l kk ⟨0, magic, [], none, 0⟩ := ⟨Nat.zero_le _, rfl, by decide, rfl⟩
theorem CI.err {l kk g f} (h : CI l kk g) (hf : l[g.k]? = some f) (hc : f.chk ≠ 0) : closeGo kk l magic [] = (f.chk, []) := by
  obtain ⟨hk, rfl⟩ := List.getElem?_eq_some_iff.1 hf
  rw [← h.eq, List.drop_eq_getElem_cons hk, closeGo, if_pos hc]
theorem CI.big {l kk g f} (h : CI l kk g) (hf : l[g.k]? = some f) (hc : f.chk = 0) (hb : kk < (g.out.length : Int) + (f.bytes.length : Int)) : closeGo kk l magic [] = (6, []) := by
  obtain ⟨hk, rfl⟩ := List.getElem?_eq_some_iff.1 hf
  rw [← h.eq, List.drop_eq_getElem_cons hk, closeGo, if_neg (by simp [hc]), if_pos hb]
theorem CI.step {l kk g f} {A : Option Addr} {cp : Nat} (h : CI l kk g) (hf : l[g.k]? = some f) (hc : f.chk = 0) (hk' : kk ≤ 1048576) (hb : ¬ kk < (g.out.length : Int) + (f.bytes.length : Int)) :
    CI l kk ⟨g.k + 1, g.out ++ f.bytes, g.es ++ [⟨f.nm, (g.out.length : Int), (f.bytes.length : Int)⟩], A, cp⟩ := by
  obtain ⟨hk, rfl⟩ := List.getElem?_eq_some_iff.1 hf
  refine ⟨hk, by simp [h.el], ?_, ?_⟩
  · simp only [List.length_append]; omega
  · rw [← h.eq, List.drop_eq_getElem_cons hk]
    conv => rhs; rw [closeGo]
    rw [if_neg (by simp [hc]), if_neg hb]
theorem CI.end_ {l kk g} (h : CI l kk g) (hk : g.k = l.length) : closeGo kk l magic [] = closeEnd kk g.out g.es := by
  rw [← h.eq, hk, List.drop_length, closeGo]
theorem indexBody_length {l : List Ent} (h : indexChk l = 0) : (indexBody l).length ≤ 276010 := by
  obtain ⟨hn, hall⟩ := indexChk_ok h
  have h1 := uvar_length (UInt64.ofInt (l.length : Int))
  have h2 := entsB_length (fun e h => (hall e h).2.1) l.length
  simp only [indexBody, List.length_append]
  have : 276 * l.length ≤ 276 * 1000 := by omega
  omega
end Go.Hb
