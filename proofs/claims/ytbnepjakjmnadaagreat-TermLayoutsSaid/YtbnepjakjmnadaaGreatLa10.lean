/- Part 10. -/
import GoSem.Op.String
import Derived.Test.YtbnepjakjmnadaaGreatLa9
set_option linter.all false
set_option maxHeartbeats 2000000
section
namespace Go.Lf
open Go
def ZgK(s:Y)(i:Int):O Int:=
 match(if 0<=i then s[i.toNat]? else none) with
 | some b=>some b.toNat
 | none=>none
def ZgJ(a b:Y):Z:=Op.bytesLess a.data.toList b.data.toList
end Go.Lf
end
