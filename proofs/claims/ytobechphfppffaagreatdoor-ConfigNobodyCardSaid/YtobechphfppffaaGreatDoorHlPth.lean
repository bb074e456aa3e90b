/- Short names; a path as a number. -/
import Derived.Test.YtobechphfppffaaGreatDoorHlCode
set_option linter.unusedVariables false
set_option linter.unusedSimpArgs false
namespace Go.HL
open Go
abbrev OA:=Option Addr
abbrev Kh:=Value→HP→Prop
def pthF:Nat→Nat→List Nat
  | 0,_=>[]
  | f+1,n=>if n≤1 then [] else n % 2::pthF f (n / 2)
def pth (n:Nat):List Nat:=pthF 200 n
end Go.HL
