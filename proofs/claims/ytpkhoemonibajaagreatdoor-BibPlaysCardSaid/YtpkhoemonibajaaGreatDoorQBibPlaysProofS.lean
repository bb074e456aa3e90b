/- The program's first sentence, letter by letter: what is asked of the start of a call, once for the seat. -/
import Derived.Test.YtpkhoemonibajaaGreatDoorQBibPlaysProofF
import Derived.Test.YtpkhoemonibajaaGreatDoorProg
import Derived.KernelRfl
import Derived.Test.YtpkhoemonibajaaGreatDoorHlFacts
namespace Go.Proofs
open Go
set_option maxRecDepth 100000
def Tryz.signs : List Char := ([104,97,114,110,101,115,115,32,50,102,100,53,51,49,100,49,50,98,56,53,49,57,98,57,98,102,56,98,51,55,99,101,51,48,53,99,102,54,97,55,97,53,53,56,48,55,98,52,101,48,53,101,101,52,56,99,99,98,57,55,48,97,101,50,50,99,97,48,50,53,52,56,32,99,117,116,32,97,116,32,105,110,116,101,114,112,114,101,116,101,114,47,105,110,116,101,114,112,114,101,116,101,114,108,97,119,50,50,46,83,101,115,115,105,111,110,80,108,97,121,115,32,105,110,116,101,114,112,114,101,116,101,114,47,105,110,116,101,114,112,114,101,116,101,114,108,97,119,50,49,46,66,105,98,80,108,97,121,115].map Char.ofNat)
theorem Tryz.order : Tryz.prog.initOrder = String.ofList Tryz.signs := by kernel_rfl
theorem Tryz.orderList : Tryz.prog.initOrder.toList = Tryz.signs := by rw [Tryz.order, String.toList_ofList]
def Tryz.rest : List (List Char) := [([97,116].map Char.ofNat), ([105,110,116,101,114,112,114,101,116,101,114,47,105,110,116,101,114,112,114,101,116,101,114,108,97,119,50,50,46,83,101,115,115,105,111,110,80,108,97,121,115].map Char.ofNat), ([105,110,116,101,114,112,114,101,116,101,114,47,105,110,116,101,114,112,114,101,116,101,114,108,97,119,50,49,46,66,105,98,80,108,97,121,115].map Char.ofNat)]
def Tryz.behind : List (List Char) := ([99,117,116].map Char.ofNat) :: Tryz.rest
theorem Tryz.behindIs : behindMainWord (wordsSigns Tryz.prog.initOrder.toList) = Tryz.behind := by rw [Tryz.orderList]; kernel_rfl
theorem Tryz.stripped : stripLifts liftWords Tryz.behind = ([], Tryz.behind) := by kernel_rfl
theorem Tryz.enters : Tryz.prog.mayEnter = true := HL.enters_of Tryz.behindIs Tryz.stripped (by kernel_rfl) (by kernel_rfl) (by kernel_rfl)
theorem Tryz.lifts : Tryz.prog.liftsFinal = false := HL.lifts_of Tryz.behindIs Tryz.stripped
theorem Tryz.made : Tryz.prog.make = some .cut := HL.made_of Tryz.behindIs
end Go.Proofs
