/- The count of a service's copies, and what may be ended, as plain data. -/
import Derived.Test.YtnmknkdbeccmhaaM1
namespace Go.Proofs.Ytnmknkdbeccmhaa
open Go.RowKit

structure Cnt where
  live : Int
  serving : Int
  old : Int
  failed : Int
  ending : Int
deriving DecidableEq
def cntC (a : Cnt) : List Value := [.int .i64 a.live, .int .i64 a.serving, .int .i64 a.old, .int .i64 a.failed, .int .i64 a.ending]
def bump (x : Int) : Int := wrap64 (x + 1)
def cntStep (nm : ByteArray) (im : Int) (a : Cnt) (c : Cpy) : Cnt :=
  if eqN c.service nm = false then a
  else if c.ending = true then { a with ending := bump a.ending }
  else { live := bump a.live, serving := if c.state = 3 then bump a.serving else a.serving, old := if c.image = im then a.old else bump a.old, failed := if c.state = 4 then bump a.failed else a.failed, ending := a.ending }
def cnt0 : Cnt := ⟨0, 0, 0, 0, 0⟩
def cntOf (cps : List Cpy) (nm : ByteArray) (im : Int) : Cnt := cps.foldl (cntStep nm im) cnt0
end Go.Proofs.Ytnmknkdbeccmhaa
