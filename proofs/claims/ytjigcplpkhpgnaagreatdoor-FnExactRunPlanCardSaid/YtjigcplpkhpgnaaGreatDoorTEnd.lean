/- End: as plain data; the walks of its size, copy, equality, marks. Written by a program. -/
import Derived.Test.YtjigcplpkhpgnaaGreatDoorGround
import Derived.StillTailTactics
import Derived.Deep.RegionHeld3
set_option maxRecDepth 100000
set_option maxHeartbeats 2000000
namespace Go.Proofs.YtjigcplpkhpgnaaGreatDoor
open Go.RowKit

structure EndT where
 code:Int
 place:Int
 want:Int
 had:Int
def endF (a:EndT):List Dat:=[.v (.int .i64 a.code)] ++([.v (.int .i64 a.place)] ++([.v (.int .i64 a.want)] ++ [.v (.int .i64 a.had)]))
def ends (l:List EndT):Dat:=.s l.length (l.flatMap endF)
end Go.Proofs.YtjigcplpkhpgnaaGreatDoor
