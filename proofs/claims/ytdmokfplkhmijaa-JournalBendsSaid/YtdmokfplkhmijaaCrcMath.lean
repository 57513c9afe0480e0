/- The checksum's own functions on lists of bytes; no program. -/
import Derived.Test.YtdmokfplkhmijaaBase
namespace Go.Proofs.Ytdmokfplkhmijaa

def crcBit (s : UInt32) : UInt32 := if s &&& 1 = 1 then (s >>> 1) ^^^ 3988292384 else s >>> 1
def crcBits : Nat → UInt32 → UInt32
  | 0, s => s
  | n + 1, s => crcBit (crcBits n s)
def crcByte (s : UInt32) (c : UInt8) : UInt32 := crcBits 8 (s ^^^ c.toUInt32)
def crcRun (s : UInt32) (l : List UInt8) : UInt32 := l.foldl crcByte s
def crcAdd (s : UInt32) (l : List UInt8) : UInt32 := ~~~ (crcRun (~~~ s) l)
def crcSum (l : List UInt8) : UInt32 := crcAdd 0 l

theorem crcRun_snoc (s : UInt32) (l : List UInt8) (k : Nat) (h : k < l.length) : crcRun s (l.take (k + 1)) = crcByte (crcRun s (l.take k)) l[k] := by
  unfold crcRun; rw [List.take_succ_eq_append_getElem h, List.foldl_append]; rfl
end Go.Proofs.Ytdmokfplkhmijaa
