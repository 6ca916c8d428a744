/- CRC-32C by half bytes, as plain functions on whole numbers. -/
import Derived.Test.YtpcaonkahhbgfaaWMore
import Derived.Lib.Hide
namespace Go.Proofs.Ytpcaonkahhbgfaa.P
open Go.RowKit Go.Proofs.YtpcaonkahhbgfaaW.PrintWords Go.Proofs.YtpcaonkahhbgfaaW.PrintLast

def crc1 (x : Int) : Int := if Go.bits .and .u32 x 1 = 1 then Go.bits .xor .u32 (x / 2) 2197175160 else x / 2
def itr (k : Nat) : Nat → Int
  | 0 => (k : Int)
  | j + 1 => crc1 (itr k j)
def tabv (k : Nat) : Int := itr k 4
def half (s : Int) : Int := Go.bits .xor .u32 (s / 16) (tabv (Go.bits .and .u32 s 15).toNat)
def crcB (s c : Int) : Int := half (half (Go.bits .xor .u32 s (c % 4294967296)))
def crcF (l : List Int) : Int := l.foldl crcB 4294967295
def crcL (l : List Int) : Int := Go.bits .xor .u32 4294967295 (crcF l)

end Go.Proofs.Ytpcaonkahhbgfaa.P
