/-
  What the checks of frames, messages, packets, options and segments return.
-/
import Derived.Test.YtahffinjglmhhaaDoorNum
namespace Go.Proofs.YtahffinjglmhhaaDoor
open Go.RowKit
set_option linter.unusedVariables false

def frameOk (d s t : Int) (b : ByteArray) : Bool := wordOk d 48 && wordOk s 48 && rng t 1536 65535 && decide ((b.size : Int) ≤ 1586)
def arpOk (k sh si dh di : Int) : Bool := rng k 1 2 && wordOk sh 48 && wordOk dh 48 && wordOk si 32 && wordOk di 32
def pktOk (s d t p i : Int) (b : ByteArray) : Bool := wordOk s 32 && wordOk d 32 && rng t 1 255 && wordOk p 8 && wordOk i 16 && decide ((b.size : Int) ≤ 1480)
def optOk (m s : Int) (st : Bool) (v e : Int) : Bool := (st || (v == 0 && e == 0)) && wordOk m 16 && rng s (-1) 14 && wordOk v 32 && wordOk e 32
def segOk (f t q a l n m s : Int) (st : Bool) (v e : Int) (b : ByteArray) : Bool :=
  wordOk f 16 && wordOk t 16 && wordOk n 16 && wordOk q 32 && wordOk a 32 && wordOk l 6 && optOk m s st v e && decide ((b.size : Int) ≤ 1420)

def hasFl (l x : Int) : Bool := bits .and .i64 l x == x
def segLen (l : Int) (n : Nat) : Int := n + (if hasFl l 2 then 1 else 0) + (if hasFl l 1 then 1 else 0)
end Go.Proofs.YtahffinjglmhhaaDoor
