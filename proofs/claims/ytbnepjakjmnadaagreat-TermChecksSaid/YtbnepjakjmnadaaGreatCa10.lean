/- Part 10. -/
import GoSem.Op.String
import Derived.Test.YtbnepjakjmnadaaGreatCa9
set_option linter.all false
set_option maxHeartbeats 2000000
section
namespace Go.Lf
open Go
def Ze6 (s:ByteArray) (i:Int):Option Int:=
 match(if 0 <=i then s[i.toNat]? else none) with
 | some b=>some b.toNat
 | none=>none
end Go.Lf
end
