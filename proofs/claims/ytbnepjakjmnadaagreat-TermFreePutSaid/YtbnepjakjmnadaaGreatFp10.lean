/- Part 10. -/
import GoSem.Op.String
import Derived.Test.YtbnepjakjmnadaaGreatFp9
set_option linter.all false
set_option maxHeartbeats 2000000
section
namespace Go.Lf
open Go
def ZlQ(s:Y)(i:Int):O Int:=
 match(if 0<=i then s[i.toNat]? else none) with
 | some b=>some b.toNat
 | none=>none
def ZG8(xs:U Int):O Y:=
 match xs with
 | []=>none
 | _::_=>some ⟨(xs.map fun n=>UInt8.ofNat n.toNat).toArray⟩
def ZdV(a b:Y):Z:=Op.bytesLess a.data.toList b.data.toList
end Go.Lf
end
