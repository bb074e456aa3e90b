/- The heaplet logic, part 11: pieces of a function's code by their place. -/
import Derived.Test.YtobechphfppffaaGreatDoorHlRW
set_option linter.unusedVariables false
set_option linter.unusedSimpArgs false
namespace Go.HL
open Go
def codeAt:Code→List Nat→Code
  | c,[]=>c
  | .seq a _,0::p=>codeAt a p
  | .seq _ b,_::p=>codeAt b p
  | .cond _ a _,0::p=>codeAt a p
  | .cond _ _ b,_::p=>codeAt b p
  | .block _ c,_::p=>codeAt c p
  | .loop c,_::p=>codeAt c p
  | .scope c,_::p=>codeAt c p
  | c,_::_=>c
def bodyOf (f:Func):Code:=f.body.getD .skip
end Go.HL
