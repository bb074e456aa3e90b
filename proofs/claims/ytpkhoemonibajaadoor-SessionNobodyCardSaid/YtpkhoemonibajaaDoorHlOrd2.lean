/- The heaplet logic, part 18b: the orders that a region may draw, for long regions: what stands ahead is kept without repetition. -/
import Derived.Test.YtpkhoemonibajaaDoorHlOrd
set_option linter.unusedVariables false
set_option linter.unusedSimpArgs false
namespace Go.HL
open Go
def dd:List Nat→List Nat
  | []=>[]
  | x::l=>(fun r:List Nat=>if r.contains x then r else x::r) (dd l)
def aheadD (E:List (Nat × Nat)):List Nat→List (Nat × List Nat)→List (Nat × List Nat)
  | [],T=>T
  | y::l,T=>aheadD E l ((y,dd ((E.filter (·.2==y)).flatMap fun e=>e.1::((T.lookup e.1).getD [])))::T)
section
variable {P:Program} {N:Nat} {prv:List Nat} {ops:Array Oper}
end
end Go.HL
