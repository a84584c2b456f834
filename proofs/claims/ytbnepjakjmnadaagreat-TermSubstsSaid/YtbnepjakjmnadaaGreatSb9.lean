/- Part 9. -/
import GoSem.Op.String
import Derived.Test.YtbnepjakjmnadaaGreatSb8
set_option linter.all false
set_option maxHeartbeats 2000000
section
namespace Go.Lf
open Go
def ZiG(s:Y)(i:Int):O Int:=
 match(if 0<=i then s[i.toNat]? else none) with|some b=>some b.toNat|none=>none
def ZLk(xs:U Int):O Y:=
 match xs with|[]=>none|_::_=>some ⟨(xs.map fun n=>UInt8.ofNat n.toNat).toArray⟩
def ZeT(a b:Y):Z:=Op.bytesLess a.data.toList b.data.toList
end Go.Lf
end
