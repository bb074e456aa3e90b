/-
  NARROWER THAN 'FOR EVERY INPUT', by the rows' own cells (each row's printed sentence says how): BibKnown: laid · BibHeld: laid · SynsOnce: laid · SynsFirst: laid · SynsKnown: laid · SessionParts: laid · SynsPlays: laid · SynsNobody: laid · SessionKnown: laid · SessionNobody: laid · SessionHas: laid · BibPairs: laid · BibOnce: laid · BibNobody: laid.
  DERIVED. THE GIVEN ROWS OF THIS SEAT. 14 by the template 'for every input the law returns true; each argument reads behind the call as it read before'; 0 by the template 'total and deterministic' (their statements: YtpkhoemonibajaaDoorTotals.lean).
  GIVEN WITH THE SEED: the statements are not yours to turn. If you find one false, say at which input.
  Laid BY PROGRAM, IN A SANDBOX (cutbox-rows.mjs): the forced cells as the released guide's own fill.sh prints them over the translation 5b450b0f0af316ec… (all of the seat's roots in one cut). By AI agents, Wed Nov 11 2026. No macro, syntax, notation, axiom, sorry.
-/
import Derived.Test.YtpkhoemonibajaaDoorChecked
import GoSem.Claim
import GoSem.ClaimJoined
import GoSem.ClaimMapViews
import Derived.JoinedTies
import Derived.KernelRfl
namespace Go.Proofs.YtpkhoemonibajaaDoor
/- THE CELL 'sum', in the pinned program and in every row, IS THE sha256 OF THE DUMP (.gsa) THAT YtpkhoemonibajaaDoorProg.lean LOADS. Nothing in Lean hashes anything: it is a label: what it is worth is what the hold of that sum in a sandbox is worth. -/
noncomputable def Tryd.pinned : Pinned := { name := "ytpkhoemonibajaadoor", sum := "5b450b0f0af316ec3f2a31ef9021c0ebf410de151ace8ceaa477ff7a118d4dfa", checked := Tryd.checked }
namespace Rows
def none {H : Type} : Left H := { results := [], args := [] }

/- WHAT THE LISTED PACKAGE-LEVEL VARIABLES READ AS WHEN THE CALL BEGINS. Each datum BY PROGRAM (the guide's laid-datum.mjs) off the statement by which the dump's own 'gosem.cut.vars' lays the variable. In a bare row this is a premise. The card (YtpkhoemonibajaaDoorCards.lean) ties it to the program's text. -/
def laid_math_bits_deBruijn32tab {H : Type} : DataW H := .agg [.lit (.int .u8 0), .lit (.int .u8 1), .lit (.int .u8 28), .lit (.int .u8 2), .lit (.int .u8 29), .lit (.int .u8 14), .lit (.int .u8 24), .lit (.int .u8 3), .lit (.int .u8 30), .lit (.int .u8 22), .lit (.int .u8 20), .lit (.int .u8 15), .lit (.int .u8 25), .lit (.int .u8 17), .lit (.int .u8 4), .lit (.int .u8 8), .lit (.int .u8 31), .lit (.int .u8 27), .lit (.int .u8 13), .lit (.int .u8 23), .lit (.int .u8 21), .lit (.int .u8 19), .lit (.int .u8 16), .lit (.int .u8 7), .lit (.int .u8 26), .lit (.int .u8 12), .lit (.int .u8 18), .lit (.int .u8 6), .lit (.int .u8 11), .lit (.int .u8 5), .lit (.int .u8 10), .lit (.int .u8 9)]
def laid_math_bits_deBruijn64tab {H : Type} : DataW H := .agg [.lit (.int .u8 0), .lit (.int .u8 1), .lit (.int .u8 56), .lit (.int .u8 2), .lit (.int .u8 57), .lit (.int .u8 49), .lit (.int .u8 28), .lit (.int .u8 3), .lit (.int .u8 61), .lit (.int .u8 58), .lit (.int .u8 42), .lit (.int .u8 50), .lit (.int .u8 38), .lit (.int .u8 29), .lit (.int .u8 17), .lit (.int .u8 4), .lit (.int .u8 62), .lit (.int .u8 47), .lit (.int .u8 59), .lit (.int .u8 36), .lit (.int .u8 45), .lit (.int .u8 43), .lit (.int .u8 51), .lit (.int .u8 22), .lit (.int .u8 53), .lit (.int .u8 39), .lit (.int .u8 33), .lit (.int .u8 30), .lit (.int .u8 24), .lit (.int .u8 18), .lit (.int .u8 12), .lit (.int .u8 5), .lit (.int .u8 63), .lit (.int .u8 55), .lit (.int .u8 48), .lit (.int .u8 27), .lit (.int .u8 60), .lit (.int .u8 41), .lit (.int .u8 37), .lit (.int .u8 16), .lit (.int .u8 46), .lit (.int .u8 35), .lit (.int .u8 44), .lit (.int .u8 21), .lit (.int .u8 52), .lit (.int .u8 32), .lit (.int .u8 23), .lit (.int .u8 11), .lit (.int .u8 54), .lit (.int .u8 26), .lit (.int .u8 40), .lit (.int .u8 15), .lit (.int .u8 34), .lit (.int .u8 20), .lit (.int .u8 31), .lit (.int .u8 10), .lit (.int .u8 25), .lit (.int .u8 14), .lit (.int .u8 19), .lit (.int .u8 9), .lit (.int .u8 13), .lit (.int .u8 8), .lit (.int .u8 7), .lit (.int .u8 6)]
def laid_internal_strconv_uint64pow10 {H : Type} : DataW H := .agg [.lit (.int .u64 1), .lit (.int .u64 10), .lit (.int .u64 100), .lit (.int .u64 1000), .lit (.int .u64 10000), .lit (.int .u64 100000), .lit (.int .u64 1000000), .lit (.int .u64 10000000), .lit (.int .u64 100000000), .lit (.int .u64 1000000000), .lit (.int .u64 10000000000), .lit (.int .u64 100000000000), .lit (.int .u64 1000000000000), .lit (.int .u64 10000000000000), .lit (.int .u64 100000000000000), .lit (.int .u64 1000000000000000), .lit (.int .u64 10000000000000000), .lit (.int .u64 100000000000000000), .lit (.int .u64 1000000000000000000), .lit (.int .u64 10000000000000000000)]

/-- 'interpreterlaw21.BibKnown': WHATEVER THE INPUT: true; the input reads as it did. -/
def bibKnownSpec : ChangeSpec := { name := "bibKnown", fn := fun _ => fun
  | [] => { results := [.lit (.bool true)], args := [] }
  | _ => none }
def bibKnownRow : OpenClaim := { program := "ytpkhoemonibajaadoor", sum := "5b450b0f0af316ec3f2a31ef9021c0ebf410de151ace8ceaa477ff7a118d4dfa", func := "interpreter/interpreterlaw21.BibKnown", spec := "bibKnown", inPlace := ["slices.overlaps[interpreter/api.V4]"], named := ["internal/strconv.uint64pow10", "math/bits.deBruijn32tab", "math/bits.deBruijn64tab"], plainKeys := false, apart := false, laid := [("math/bits.deBruijn32tab", laid_math_bits_deBruijn32tab), ("math/bits.deBruijn64tab", laid_math_bits_deBruijn64tab), ("internal/strconv.uint64pow10", laid_internal_strconv_uint64pow10)] }
def BibKnownSaid : Prop := bibKnownRow.holds Tryd.pinned (OpenSpec.ofChange bibKnownSpec)

/-- ITS FALSE NEIGHBOUR: 'it returns false'. Refute it at one input. -/
def bibKnownWrong : ChangeSpec := { name := "bibKnown", fn := fun _ => fun
  | [] => { results := [.lit (.bool false)], args := [] }
  | _ => none }
def BibKnownWrongFalsely : Prop := bibKnownRow.holds Tryd.pinned (OpenSpec.ofChange bibKnownWrong)

/-- 'interpreterlaw21.BibHeld': WHATEVER THE INPUT: true; the input reads as it did. -/
def bibHeldSpec : ChangeSpec := { name := "bibHeld", fn := fun _ => fun
  | [d1, d2, d3, d4, d5, d6, d7, d8] => { results := [.lit (.bool true)], args := [d1, d2, d3, d4, d5, d6, d7, d8] }
  | _ => none }
def bibHeldRow : OpenClaim := { program := "ytpkhoemonibajaadoor", sum := "5b450b0f0af316ec3f2a31ef9021c0ebf410de151ace8ceaa477ff7a118d4dfa", func := "interpreter/interpreterlaw21.BibHeld", spec := "bibHeld", inPlace := ["slices.overlaps[interpreter/api.V4]"], named := ["internal/strconv.uint64pow10", "math/bits.deBruijn32tab", "math/bits.deBruijn64tab"], plainKeys := false, apart := false, laid := [("math/bits.deBruijn32tab", laid_math_bits_deBruijn32tab), ("math/bits.deBruijn64tab", laid_math_bits_deBruijn64tab), ("internal/strconv.uint64pow10", laid_internal_strconv_uint64pow10)] }
def BibHeldSaid : Prop := bibHeldRow.holds Tryd.pinned (OpenSpec.ofChange bibHeldSpec)

/-- ITS FALSE NEIGHBOUR: 'it returns false'. Refute it at one input. -/
def bibHeldWrong : ChangeSpec := { name := "bibHeld", fn := fun _ => fun
  | [d1, d2, d3, d4, d5, d6, d7, d8] => { results := [.lit (.bool false)], args := [d1, d2, d3, d4, d5, d6, d7, d8] }
  | _ => none }
def BibHeldWrongFalsely : Prop := bibHeldRow.holds Tryd.pinned (OpenSpec.ofChange bibHeldWrong)

/-- 'interpreterlaw24.SynsOnce': WHATEVER THE INPUT: true; the input reads as it did. -/
def synsOnceSpec : ChangeSpec := { name := "synsOnce", fn := fun _ => fun
  | [d1, d2] => { results := [.lit (.bool true)], args := [d1, d2] }
  | _ => none }
def synsOnceRow : OpenClaim := { program := "ytpkhoemonibajaadoor", sum := "5b450b0f0af316ec3f2a31ef9021c0ebf410de151ace8ceaa477ff7a118d4dfa", func := "interpreter/interpreterlaw24.SynsOnce", spec := "synsOnce", unfollowed := true, recurses := true, named := ["internal/strconv.uint64pow10", "math/bits.deBruijn32tab", "math/bits.deBruijn64tab"], plainKeys := false, apart := false, laid := [("math/bits.deBruijn32tab", laid_math_bits_deBruijn32tab), ("math/bits.deBruijn64tab", laid_math_bits_deBruijn64tab), ("internal/strconv.uint64pow10", laid_internal_strconv_uint64pow10)] }
def SynsOnceSaid : Prop := synsOnceRow.holds Tryd.pinned (OpenSpec.ofChange synsOnceSpec)

/-- ITS FALSE NEIGHBOUR: 'it returns false'. Refute it at one input. -/
def synsOnceWrong : ChangeSpec := { name := "synsOnce", fn := fun _ => fun
  | [d1, d2] => { results := [.lit (.bool false)], args := [d1, d2] }
  | _ => none }
def SynsOnceWrongFalsely : Prop := synsOnceRow.holds Tryd.pinned (OpenSpec.ofChange synsOnceWrong)

/-- 'interpreterlaw24.SynsFirst': WHATEVER THE INPUT: true; the input reads as it did. -/
def synsFirstSpec : ChangeSpec := { name := "synsFirst", fn := fun _ => fun
  | [d1, d2, d3, d4, d5, d6] => { results := [.lit (.bool true)], args := [d1, d2, d3, d4, d5, d6] }
  | _ => none }
def synsFirstRow : OpenClaim := { program := "ytpkhoemonibajaadoor", sum := "5b450b0f0af316ec3f2a31ef9021c0ebf410de151ace8ceaa477ff7a118d4dfa", func := "interpreter/interpreterlaw24.SynsFirst", spec := "synsFirst", unfollowed := true, recurses := true, named := ["internal/strconv.uint64pow10", "math/bits.deBruijn32tab", "math/bits.deBruijn64tab"], plainKeys := false, apart := false, laid := [("math/bits.deBruijn32tab", laid_math_bits_deBruijn32tab), ("math/bits.deBruijn64tab", laid_math_bits_deBruijn64tab), ("internal/strconv.uint64pow10", laid_internal_strconv_uint64pow10)] }
def SynsFirstSaid : Prop := synsFirstRow.holds Tryd.pinned (OpenSpec.ofChange synsFirstSpec)

/-- ITS FALSE NEIGHBOUR: 'it returns false'. Refute it at one input. -/
def synsFirstWrong : ChangeSpec := { name := "synsFirst", fn := fun _ => fun
  | [d1, d2, d3, d4, d5, d6] => { results := [.lit (.bool false)], args := [d1, d2, d3, d4, d5, d6] }
  | _ => none }
def SynsFirstWrongFalsely : Prop := synsFirstRow.holds Tryd.pinned (OpenSpec.ofChange synsFirstWrong)

/-- 'interpreterlaw24.SynsKnown': WHATEVER THE INPUT: true; the input reads as it did. -/
def synsKnownSpec : ChangeSpec := { name := "synsKnown", fn := fun _ => fun
  | [] => { results := [.lit (.bool true)], args := [] }
  | _ => none }
def synsKnownRow : OpenClaim := { program := "ytpkhoemonibajaadoor", sum := "5b450b0f0af316ec3f2a31ef9021c0ebf410de151ace8ceaa477ff7a118d4dfa", func := "interpreter/interpreterlaw24.SynsKnown", spec := "synsKnown", unfollowed := true, recurses := true, named := ["internal/strconv.uint64pow10", "math/bits.deBruijn32tab", "math/bits.deBruijn64tab"], plainKeys := false, apart := false, laid := [("math/bits.deBruijn32tab", laid_math_bits_deBruijn32tab), ("math/bits.deBruijn64tab", laid_math_bits_deBruijn64tab), ("internal/strconv.uint64pow10", laid_internal_strconv_uint64pow10)] }
def SynsKnownSaid : Prop := synsKnownRow.holds Tryd.pinned (OpenSpec.ofChange synsKnownSpec)

/-- ITS FALSE NEIGHBOUR: 'it returns false'. Refute it at one input. -/
def synsKnownWrong : ChangeSpec := { name := "synsKnown", fn := fun _ => fun
  | [] => { results := [.lit (.bool false)], args := [] }
  | _ => none }
def SynsKnownWrongFalsely : Prop := synsKnownRow.holds Tryd.pinned (OpenSpec.ofChange synsKnownWrong)

/-- 'interpreterlaw22.SessionParts': WHATEVER THE INPUT: true; the input reads as it did. -/
def sessionPartsSpec : ChangeSpec := { name := "sessionParts", fn := fun _ => fun
  | [d1, d2] => { results := [.lit (.bool true)], args := [d1, d2] }
  | _ => none }
def sessionPartsRow : OpenClaim := { program := "ytpkhoemonibajaadoor", sum := "5b450b0f0af316ec3f2a31ef9021c0ebf410de151ace8ceaa477ff7a118d4dfa", func := "interpreter/interpreterlaw22.SessionParts", spec := "sessionParts", unfollowed := true, recurses := true, named := ["internal/strconv.uint64pow10", "math/bits.deBruijn32tab", "math/bits.deBruijn64tab"], plainKeys := false, apart := false, laid := [("math/bits.deBruijn32tab", laid_math_bits_deBruijn32tab), ("math/bits.deBruijn64tab", laid_math_bits_deBruijn64tab), ("internal/strconv.uint64pow10", laid_internal_strconv_uint64pow10)] }
def SessionPartsSaid : Prop := sessionPartsRow.holds Tryd.pinned (OpenSpec.ofChange sessionPartsSpec)

/-- ITS FALSE NEIGHBOUR: 'it returns false'. Refute it at one input. -/
def sessionPartsWrong : ChangeSpec := { name := "sessionParts", fn := fun _ => fun
  | [d1, d2] => { results := [.lit (.bool false)], args := [d1, d2] }
  | _ => none }
def SessionPartsWrongFalsely : Prop := sessionPartsRow.holds Tryd.pinned (OpenSpec.ofChange sessionPartsWrong)

/-- 'interpreterlaw24.SynsPlays': WHATEVER THE INPUT: true; the input reads as it did. -/
def synsPlaysSpec : ChangeSpec := { name := "synsPlays", fn := fun _ => fun
  | [d1, d2] => { results := [.lit (.bool true)], args := [d1, d2] }
  | _ => none }
def synsPlaysRow : OpenClaim := { program := "ytpkhoemonibajaadoor", sum := "5b450b0f0af316ec3f2a31ef9021c0ebf410de151ace8ceaa477ff7a118d4dfa", func := "interpreter/interpreterlaw24.SynsPlays", spec := "synsPlays", unfollowed := true, recurses := true, named := ["internal/strconv.uint64pow10", "math/bits.deBruijn32tab", "math/bits.deBruijn64tab"], plainKeys := false, apart := false, laid := [("math/bits.deBruijn32tab", laid_math_bits_deBruijn32tab), ("math/bits.deBruijn64tab", laid_math_bits_deBruijn64tab), ("internal/strconv.uint64pow10", laid_internal_strconv_uint64pow10)] }
def SynsPlaysSaid : Prop := synsPlaysRow.holds Tryd.pinned (OpenSpec.ofChange synsPlaysSpec)

/-- ITS FALSE NEIGHBOUR: 'it returns false'. Refute it at one input. -/
def synsPlaysWrong : ChangeSpec := { name := "synsPlays", fn := fun _ => fun
  | [d1, d2] => { results := [.lit (.bool false)], args := [d1, d2] }
  | _ => none }
def SynsPlaysWrongFalsely : Prop := synsPlaysRow.holds Tryd.pinned (OpenSpec.ofChange synsPlaysWrong)

/-- 'interpreterlaw24.SynsNobody': WHATEVER THE INPUT: true; the input reads as it did. -/
def synsNobodySpec : ChangeSpec := { name := "synsNobody", fn := fun _ => fun
  | [d1, d2, d3] => { results := [.lit (.bool true)], args := [d1, d2, d3] }
  | _ => none }
def synsNobodyRow : OpenClaim := { program := "ytpkhoemonibajaadoor", sum := "5b450b0f0af316ec3f2a31ef9021c0ebf410de151ace8ceaa477ff7a118d4dfa", func := "interpreter/interpreterlaw24.SynsNobody", spec := "synsNobody", unfollowed := true, recurses := true, named := ["internal/strconv.uint64pow10", "math/bits.deBruijn32tab", "math/bits.deBruijn64tab"], plainKeys := false, apart := false, laid := [("math/bits.deBruijn32tab", laid_math_bits_deBruijn32tab), ("math/bits.deBruijn64tab", laid_math_bits_deBruijn64tab), ("internal/strconv.uint64pow10", laid_internal_strconv_uint64pow10)] }
def SynsNobodySaid : Prop := synsNobodyRow.holds Tryd.pinned (OpenSpec.ofChange synsNobodySpec)

/-- ITS FALSE NEIGHBOUR: 'it returns false'. Refute it at one input. -/
def synsNobodyWrong : ChangeSpec := { name := "synsNobody", fn := fun _ => fun
  | [d1, d2, d3] => { results := [.lit (.bool false)], args := [d1, d2, d3] }
  | _ => none }
def SynsNobodyWrongFalsely : Prop := synsNobodyRow.holds Tryd.pinned (OpenSpec.ofChange synsNobodyWrong)

/-- 'interpreterlaw22.SessionKnown': WHATEVER THE INPUT: true; the input reads as it did. -/
def sessionKnownSpec : ChangeSpec := { name := "sessionKnown", fn := fun _ => fun
  | [] => { results := [.lit (.bool true)], args := [] }
  | _ => none }
def sessionKnownRow : OpenClaim := { program := "ytpkhoemonibajaadoor", sum := "5b450b0f0af316ec3f2a31ef9021c0ebf410de151ace8ceaa477ff7a118d4dfa", func := "interpreter/interpreterlaw22.SessionKnown", spec := "sessionKnown", unfollowed := true, recurses := true, named := ["internal/strconv.uint64pow10", "math/bits.deBruijn32tab", "math/bits.deBruijn64tab"], plainKeys := false, apart := false, laid := [("math/bits.deBruijn32tab", laid_math_bits_deBruijn32tab), ("math/bits.deBruijn64tab", laid_math_bits_deBruijn64tab), ("internal/strconv.uint64pow10", laid_internal_strconv_uint64pow10)] }
def SessionKnownSaid : Prop := sessionKnownRow.holds Tryd.pinned (OpenSpec.ofChange sessionKnownSpec)

/-- ITS FALSE NEIGHBOUR: 'it returns false'. Refute it at one input. -/
def sessionKnownWrong : ChangeSpec := { name := "sessionKnown", fn := fun _ => fun
  | [] => { results := [.lit (.bool false)], args := [] }
  | _ => none }
def SessionKnownWrongFalsely : Prop := sessionKnownRow.holds Tryd.pinned (OpenSpec.ofChange sessionKnownWrong)

/-- 'interpreterlaw22.SessionNobody': WHATEVER THE INPUT: true; the input reads as it did. -/
def sessionNobodySpec : ChangeSpec := { name := "sessionNobody", fn := fun _ => fun
  | [d1, d2, d3] => { results := [.lit (.bool true)], args := [d1, d2, d3] }
  | _ => none }
def sessionNobodyRow : OpenClaim := { program := "ytpkhoemonibajaadoor", sum := "5b450b0f0af316ec3f2a31ef9021c0ebf410de151ace8ceaa477ff7a118d4dfa", func := "interpreter/interpreterlaw22.SessionNobody", spec := "sessionNobody", unfollowed := true, recurses := true, named := ["internal/strconv.uint64pow10", "math/bits.deBruijn32tab", "math/bits.deBruijn64tab"], plainKeys := false, apart := false, laid := [("math/bits.deBruijn32tab", laid_math_bits_deBruijn32tab), ("math/bits.deBruijn64tab", laid_math_bits_deBruijn64tab), ("internal/strconv.uint64pow10", laid_internal_strconv_uint64pow10)] }
def SessionNobodySaid : Prop := sessionNobodyRow.holds Tryd.pinned (OpenSpec.ofChange sessionNobodySpec)

/-- ITS FALSE NEIGHBOUR: 'it returns false'. Refute it at one input. -/
def sessionNobodyWrong : ChangeSpec := { name := "sessionNobody", fn := fun _ => fun
  | [d1, d2, d3] => { results := [.lit (.bool false)], args := [d1, d2, d3] }
  | _ => none }
def SessionNobodyWrongFalsely : Prop := sessionNobodyRow.holds Tryd.pinned (OpenSpec.ofChange sessionNobodyWrong)

/-- 'interpreterlaw22.SessionHas': WHATEVER THE INPUT: true; the input reads as it did. -/
def sessionHasSpec : ChangeSpec := { name := "sessionHas", fn := fun _ => fun
  | [d1, d2] => { results := [.lit (.bool true)], args := [d1, d2] }
  | _ => none }
def sessionHasRow : OpenClaim := { program := "ytpkhoemonibajaadoor", sum := "5b450b0f0af316ec3f2a31ef9021c0ebf410de151ace8ceaa477ff7a118d4dfa", func := "interpreter/interpreterlaw22.SessionHas", spec := "sessionHas", unfollowed := true, recurses := true, named := ["internal/strconv.uint64pow10", "math/bits.deBruijn32tab", "math/bits.deBruijn64tab"], plainKeys := false, apart := false, laid := [("math/bits.deBruijn32tab", laid_math_bits_deBruijn32tab), ("math/bits.deBruijn64tab", laid_math_bits_deBruijn64tab), ("internal/strconv.uint64pow10", laid_internal_strconv_uint64pow10)] }
def SessionHasSaid : Prop := sessionHasRow.holds Tryd.pinned (OpenSpec.ofChange sessionHasSpec)

/-- ITS FALSE NEIGHBOUR: 'it returns false'. Refute it at one input. -/
def sessionHasWrong : ChangeSpec := { name := "sessionHas", fn := fun _ => fun
  | [d1, d2] => { results := [.lit (.bool false)], args := [d1, d2] }
  | _ => none }
def SessionHasWrongFalsely : Prop := sessionHasRow.holds Tryd.pinned (OpenSpec.ofChange sessionHasWrong)

/-- 'interpreterlaw21.BibPairs': WHATEVER THE INPUT: true; the input reads as it did. -/
def bibPairsSpec : ChangeSpec := { name := "bibPairs", fn := fun _ => fun
  | [d1, d2, d3, d4, d5] => { results := [.lit (.bool true)], args := [d1, d2, d3, d4, d5] }
  | _ => none }
def bibPairsRow : OpenClaim := { program := "ytpkhoemonibajaadoor", sum := "5b450b0f0af316ec3f2a31ef9021c0ebf410de151ace8ceaa477ff7a118d4dfa", func := "interpreter/interpreterlaw21.BibPairs", spec := "bibPairs", inPlace := ["slices.overlaps[interpreter/api.V4]"], unfollowed := true, recurses := true, named := ["internal/strconv.uint64pow10", "math/bits.deBruijn32tab", "math/bits.deBruijn64tab"], plainKeys := false, apart := false, laid := [("math/bits.deBruijn32tab", laid_math_bits_deBruijn32tab), ("math/bits.deBruijn64tab", laid_math_bits_deBruijn64tab), ("internal/strconv.uint64pow10", laid_internal_strconv_uint64pow10)] }
def BibPairsSaid : Prop := bibPairsRow.holds Tryd.pinned (OpenSpec.ofChange bibPairsSpec)

/-- ITS FALSE NEIGHBOUR: 'it returns false'. Refute it at one input. -/
def bibPairsWrong : ChangeSpec := { name := "bibPairs", fn := fun _ => fun
  | [d1, d2, d3, d4, d5] => { results := [.lit (.bool false)], args := [d1, d2, d3, d4, d5] }
  | _ => none }
def BibPairsWrongFalsely : Prop := bibPairsRow.holds Tryd.pinned (OpenSpec.ofChange bibPairsWrong)

/-- 'interpreterlaw21.BibOnce': WHATEVER THE INPUT: true; the input reads as it did. -/
def bibOnceSpec : ChangeSpec := { name := "bibOnce", fn := fun _ => fun
  | [d1, d2, d3, d4, d5] => { results := [.lit (.bool true)], args := [d1, d2, d3, d4, d5] }
  | _ => none }
def bibOnceRow : OpenClaim := { program := "ytpkhoemonibajaadoor", sum := "5b450b0f0af316ec3f2a31ef9021c0ebf410de151ace8ceaa477ff7a118d4dfa", func := "interpreter/interpreterlaw21.BibOnce", spec := "bibOnce", inPlace := ["slices.overlaps[interpreter/api.V4]"], unfollowed := true, recurses := true, named := ["internal/strconv.uint64pow10", "math/bits.deBruijn32tab", "math/bits.deBruijn64tab"], plainKeys := false, apart := false, laid := [("math/bits.deBruijn32tab", laid_math_bits_deBruijn32tab), ("math/bits.deBruijn64tab", laid_math_bits_deBruijn64tab), ("internal/strconv.uint64pow10", laid_internal_strconv_uint64pow10)] }
def BibOnceSaid : Prop := bibOnceRow.holds Tryd.pinned (OpenSpec.ofChange bibOnceSpec)

/-- ITS FALSE NEIGHBOUR: 'it returns false'. Refute it at one input. -/
def bibOnceWrong : ChangeSpec := { name := "bibOnce", fn := fun _ => fun
  | [d1, d2, d3, d4, d5] => { results := [.lit (.bool false)], args := [d1, d2, d3, d4, d5] }
  | _ => none }
def BibOnceWrongFalsely : Prop := bibOnceRow.holds Tryd.pinned (OpenSpec.ofChange bibOnceWrong)

/-- 'interpreterlaw21.BibNobody': WHATEVER THE INPUT: true; the input reads as it did. -/
def bibNobodySpec : ChangeSpec := { name := "bibNobody", fn := fun _ => fun
  | [d1, d2, d3] => { results := [.lit (.bool true)], args := [d1, d2, d3] }
  | _ => none }
def bibNobodyRow : OpenClaim := { program := "ytpkhoemonibajaadoor", sum := "5b450b0f0af316ec3f2a31ef9021c0ebf410de151ace8ceaa477ff7a118d4dfa", func := "interpreter/interpreterlaw21.BibNobody", spec := "bibNobody", inPlace := ["slices.overlaps[interpreter/api.V4]"], unfollowed := true, recurses := true, named := ["internal/strconv.uint64pow10", "math/bits.deBruijn32tab", "math/bits.deBruijn64tab"], plainKeys := false, apart := false, laid := [("math/bits.deBruijn32tab", laid_math_bits_deBruijn32tab), ("math/bits.deBruijn64tab", laid_math_bits_deBruijn64tab), ("internal/strconv.uint64pow10", laid_internal_strconv_uint64pow10)] }
def BibNobodySaid : Prop := bibNobodyRow.holds Tryd.pinned (OpenSpec.ofChange bibNobodySpec)

/-- ITS FALSE NEIGHBOUR: 'it returns false'. Refute it at one input. -/
def bibNobodyWrong : ChangeSpec := { name := "bibNobody", fn := fun _ => fun
  | [d1, d2, d3] => { results := [.lit (.bool false)], args := [d1, d2, d3] }
  | _ => none }
def BibNobodyWrongFalsely : Prop := bibNobodyRow.holds Tryd.pinned (OpenSpec.ofChange bibNobodyWrong)

/- THE SECOND FORM. 'bulk': how many values and letters a reading holds, each counted each time it is reached (what is shared counts as often as it is met; a slice's spare places count too). A statement '..UptoSaid' is the law's where the arguments, and the package variables that the reading takes, are together of bulk at most 1048576: NARROWER than '..Said'. Prove '..Said' where nothing that the law and all that it calls make is longer than what came in: it says more and counts as full. Else prove '..UptoSaid'. A law counts once. -/
mutual
def uptoBulk {H : Type} : DataW H → Nat
  | .lit (.string bytes) => bytes.length + 1
  | .lit _ => 1
  | .nil => 1
  | .ptr d => uptoBulk d + 1
  | .slice elems spare => uptoBulkAll elems + uptoBulkAll spare + 1
  | .agg parts => uptoBulkAll parts + 1
  | .iface _ d => uptoBulk d + 1
  | .map entries => uptoBulkEntries entries + 1
  | .held _ => 1
def uptoBulkAll {H : Type} : List (DataW H) → Nat
  | [] => 0
  | d :: r => uptoBulk d + uptoBulkAll r
def uptoBulkEntries {H : Type} : List (Lit × DataW H) → Nat
  | [] => 0
  | x :: r => uptoBulkEntry x + uptoBulkEntries r
def uptoBulkEntry {H : Type} : Lit × DataW H → Nat
  | (.string bytes, d) => bytes.length + uptoBulk d + 1
  | (_, d) => uptoBulk d + 1
 end
def uptoSmall : (H : Type) → List (DataW H) → Bool := fun _ ds => decide (uptoBulkAll ds ≤ 1048576)
def OpenSpec.upto (s : _root_.Go.ChangeSpec) : _root_.Go.OpenSpec := { _root_.Go.OpenSpec.ofChange s with cond := some uptoSmall }

/-- 'interpreterlaw21.BibKnown', WHERE WHAT IT READS IS OF BULK AT MOST 1048576: true; the input reads as it did. -/
def bibKnownUptoRow : OpenClaim := { program := "ytpkhoemonibajaadoor", sum := "5b450b0f0af316ec3f2a31ef9021c0ebf410de151ace8ceaa477ff7a118d4dfa", func := "interpreter/interpreterlaw21.BibKnown", spec := "bibKnown", inPlace := ["slices.overlaps[interpreter/api.V4]"], named := ["internal/strconv.uint64pow10", "math/bits.deBruijn32tab", "math/bits.deBruijn64tab"], plainKeys := false, apart := false, laid := [("math/bits.deBruijn32tab", laid_math_bits_deBruijn32tab), ("math/bits.deBruijn64tab", laid_math_bits_deBruijn64tab), ("internal/strconv.uint64pow10", laid_internal_strconv_uint64pow10)], narrowed := true }
def BibKnownUptoSaid : Prop := bibKnownUptoRow.holds Tryd.pinned (OpenSpec.upto bibKnownSpec)

/-- 'interpreterlaw21.BibHeld', WHERE WHAT IT READS IS OF BULK AT MOST 1048576: true; the input reads as it did. -/
def bibHeldUptoRow : OpenClaim := { program := "ytpkhoemonibajaadoor", sum := "5b450b0f0af316ec3f2a31ef9021c0ebf410de151ace8ceaa477ff7a118d4dfa", func := "interpreter/interpreterlaw21.BibHeld", spec := "bibHeld", inPlace := ["slices.overlaps[interpreter/api.V4]"], named := ["internal/strconv.uint64pow10", "math/bits.deBruijn32tab", "math/bits.deBruijn64tab"], plainKeys := false, apart := false, laid := [("math/bits.deBruijn32tab", laid_math_bits_deBruijn32tab), ("math/bits.deBruijn64tab", laid_math_bits_deBruijn64tab), ("internal/strconv.uint64pow10", laid_internal_strconv_uint64pow10)], narrowed := true }
def BibHeldUptoSaid : Prop := bibHeldUptoRow.holds Tryd.pinned (OpenSpec.upto bibHeldSpec)

/-- 'interpreterlaw24.SynsOnce', WHERE WHAT IT READS IS OF BULK AT MOST 1048576: true; the input reads as it did. -/
def synsOnceUptoRow : OpenClaim := { program := "ytpkhoemonibajaadoor", sum := "5b450b0f0af316ec3f2a31ef9021c0ebf410de151ace8ceaa477ff7a118d4dfa", func := "interpreter/interpreterlaw24.SynsOnce", spec := "synsOnce", unfollowed := true, recurses := true, named := ["internal/strconv.uint64pow10", "math/bits.deBruijn32tab", "math/bits.deBruijn64tab"], plainKeys := false, apart := false, laid := [("math/bits.deBruijn32tab", laid_math_bits_deBruijn32tab), ("math/bits.deBruijn64tab", laid_math_bits_deBruijn64tab), ("internal/strconv.uint64pow10", laid_internal_strconv_uint64pow10)], narrowed := true }
def SynsOnceUptoSaid : Prop := synsOnceUptoRow.holds Tryd.pinned (OpenSpec.upto synsOnceSpec)

/-- 'interpreterlaw24.SynsFirst', WHERE WHAT IT READS IS OF BULK AT MOST 1048576: true; the input reads as it did. -/
def synsFirstUptoRow : OpenClaim := { program := "ytpkhoemonibajaadoor", sum := "5b450b0f0af316ec3f2a31ef9021c0ebf410de151ace8ceaa477ff7a118d4dfa", func := "interpreter/interpreterlaw24.SynsFirst", spec := "synsFirst", unfollowed := true, recurses := true, named := ["internal/strconv.uint64pow10", "math/bits.deBruijn32tab", "math/bits.deBruijn64tab"], plainKeys := false, apart := false, laid := [("math/bits.deBruijn32tab", laid_math_bits_deBruijn32tab), ("math/bits.deBruijn64tab", laid_math_bits_deBruijn64tab), ("internal/strconv.uint64pow10", laid_internal_strconv_uint64pow10)], narrowed := true }
def SynsFirstUptoSaid : Prop := synsFirstUptoRow.holds Tryd.pinned (OpenSpec.upto synsFirstSpec)

/-- 'interpreterlaw24.SynsKnown', WHERE WHAT IT READS IS OF BULK AT MOST 1048576: true; the input reads as it did. -/
def synsKnownUptoRow : OpenClaim := { program := "ytpkhoemonibajaadoor", sum := "5b450b0f0af316ec3f2a31ef9021c0ebf410de151ace8ceaa477ff7a118d4dfa", func := "interpreter/interpreterlaw24.SynsKnown", spec := "synsKnown", unfollowed := true, recurses := true, named := ["internal/strconv.uint64pow10", "math/bits.deBruijn32tab", "math/bits.deBruijn64tab"], plainKeys := false, apart := false, laid := [("math/bits.deBruijn32tab", laid_math_bits_deBruijn32tab), ("math/bits.deBruijn64tab", laid_math_bits_deBruijn64tab), ("internal/strconv.uint64pow10", laid_internal_strconv_uint64pow10)], narrowed := true }
def SynsKnownUptoSaid : Prop := synsKnownUptoRow.holds Tryd.pinned (OpenSpec.upto synsKnownSpec)

/-- 'interpreterlaw22.SessionParts', WHERE WHAT IT READS IS OF BULK AT MOST 1048576: true; the input reads as it did. -/
def sessionPartsUptoRow : OpenClaim := { program := "ytpkhoemonibajaadoor", sum := "5b450b0f0af316ec3f2a31ef9021c0ebf410de151ace8ceaa477ff7a118d4dfa", func := "interpreter/interpreterlaw22.SessionParts", spec := "sessionParts", unfollowed := true, recurses := true, named := ["internal/strconv.uint64pow10", "math/bits.deBruijn32tab", "math/bits.deBruijn64tab"], plainKeys := false, apart := false, laid := [("math/bits.deBruijn32tab", laid_math_bits_deBruijn32tab), ("math/bits.deBruijn64tab", laid_math_bits_deBruijn64tab), ("internal/strconv.uint64pow10", laid_internal_strconv_uint64pow10)], narrowed := true }
def SessionPartsUptoSaid : Prop := sessionPartsUptoRow.holds Tryd.pinned (OpenSpec.upto sessionPartsSpec)

/-- 'interpreterlaw24.SynsPlays', WHERE WHAT IT READS IS OF BULK AT MOST 1048576: true; the input reads as it did. -/
def synsPlaysUptoRow : OpenClaim := { program := "ytpkhoemonibajaadoor", sum := "5b450b0f0af316ec3f2a31ef9021c0ebf410de151ace8ceaa477ff7a118d4dfa", func := "interpreter/interpreterlaw24.SynsPlays", spec := "synsPlays", unfollowed := true, recurses := true, named := ["internal/strconv.uint64pow10", "math/bits.deBruijn32tab", "math/bits.deBruijn64tab"], plainKeys := false, apart := false, laid := [("math/bits.deBruijn32tab", laid_math_bits_deBruijn32tab), ("math/bits.deBruijn64tab", laid_math_bits_deBruijn64tab), ("internal/strconv.uint64pow10", laid_internal_strconv_uint64pow10)], narrowed := true }
def SynsPlaysUptoSaid : Prop := synsPlaysUptoRow.holds Tryd.pinned (OpenSpec.upto synsPlaysSpec)

/-- 'interpreterlaw24.SynsNobody', WHERE WHAT IT READS IS OF BULK AT MOST 1048576: true; the input reads as it did. -/
def synsNobodyUptoRow : OpenClaim := { program := "ytpkhoemonibajaadoor", sum := "5b450b0f0af316ec3f2a31ef9021c0ebf410de151ace8ceaa477ff7a118d4dfa", func := "interpreter/interpreterlaw24.SynsNobody", spec := "synsNobody", unfollowed := true, recurses := true, named := ["internal/strconv.uint64pow10", "math/bits.deBruijn32tab", "math/bits.deBruijn64tab"], plainKeys := false, apart := false, laid := [("math/bits.deBruijn32tab", laid_math_bits_deBruijn32tab), ("math/bits.deBruijn64tab", laid_math_bits_deBruijn64tab), ("internal/strconv.uint64pow10", laid_internal_strconv_uint64pow10)], narrowed := true }
def SynsNobodyUptoSaid : Prop := synsNobodyUptoRow.holds Tryd.pinned (OpenSpec.upto synsNobodySpec)

/-- 'interpreterlaw22.SessionKnown', WHERE WHAT IT READS IS OF BULK AT MOST 1048576: true; the input reads as it did. -/
def sessionKnownUptoRow : OpenClaim := { program := "ytpkhoemonibajaadoor", sum := "5b450b0f0af316ec3f2a31ef9021c0ebf410de151ace8ceaa477ff7a118d4dfa", func := "interpreter/interpreterlaw22.SessionKnown", spec := "sessionKnown", unfollowed := true, recurses := true, named := ["internal/strconv.uint64pow10", "math/bits.deBruijn32tab", "math/bits.deBruijn64tab"], plainKeys := false, apart := false, laid := [("math/bits.deBruijn32tab", laid_math_bits_deBruijn32tab), ("math/bits.deBruijn64tab", laid_math_bits_deBruijn64tab), ("internal/strconv.uint64pow10", laid_internal_strconv_uint64pow10)], narrowed := true }
def SessionKnownUptoSaid : Prop := sessionKnownUptoRow.holds Tryd.pinned (OpenSpec.upto sessionKnownSpec)

/-- 'interpreterlaw22.SessionNobody', WHERE WHAT IT READS IS OF BULK AT MOST 1048576: true; the input reads as it did. -/
def sessionNobodyUptoRow : OpenClaim := { program := "ytpkhoemonibajaadoor", sum := "5b450b0f0af316ec3f2a31ef9021c0ebf410de151ace8ceaa477ff7a118d4dfa", func := "interpreter/interpreterlaw22.SessionNobody", spec := "sessionNobody", unfollowed := true, recurses := true, named := ["internal/strconv.uint64pow10", "math/bits.deBruijn32tab", "math/bits.deBruijn64tab"], plainKeys := false, apart := false, laid := [("math/bits.deBruijn32tab", laid_math_bits_deBruijn32tab), ("math/bits.deBruijn64tab", laid_math_bits_deBruijn64tab), ("internal/strconv.uint64pow10", laid_internal_strconv_uint64pow10)], narrowed := true }
def SessionNobodyUptoSaid : Prop := sessionNobodyUptoRow.holds Tryd.pinned (OpenSpec.upto sessionNobodySpec)

/-- 'interpreterlaw22.SessionHas', WHERE WHAT IT READS IS OF BULK AT MOST 1048576: true; the input reads as it did. -/
def sessionHasUptoRow : OpenClaim := { program := "ytpkhoemonibajaadoor", sum := "5b450b0f0af316ec3f2a31ef9021c0ebf410de151ace8ceaa477ff7a118d4dfa", func := "interpreter/interpreterlaw22.SessionHas", spec := "sessionHas", unfollowed := true, recurses := true, named := ["internal/strconv.uint64pow10", "math/bits.deBruijn32tab", "math/bits.deBruijn64tab"], plainKeys := false, apart := false, laid := [("math/bits.deBruijn32tab", laid_math_bits_deBruijn32tab), ("math/bits.deBruijn64tab", laid_math_bits_deBruijn64tab), ("internal/strconv.uint64pow10", laid_internal_strconv_uint64pow10)], narrowed := true }
def SessionHasUptoSaid : Prop := sessionHasUptoRow.holds Tryd.pinned (OpenSpec.upto sessionHasSpec)

/-- 'interpreterlaw21.BibPairs', WHERE WHAT IT READS IS OF BULK AT MOST 1048576: true; the input reads as it did. -/
def bibPairsUptoRow : OpenClaim := { program := "ytpkhoemonibajaadoor", sum := "5b450b0f0af316ec3f2a31ef9021c0ebf410de151ace8ceaa477ff7a118d4dfa", func := "interpreter/interpreterlaw21.BibPairs", spec := "bibPairs", inPlace := ["slices.overlaps[interpreter/api.V4]"], unfollowed := true, recurses := true, named := ["internal/strconv.uint64pow10", "math/bits.deBruijn32tab", "math/bits.deBruijn64tab"], plainKeys := false, apart := false, laid := [("math/bits.deBruijn32tab", laid_math_bits_deBruijn32tab), ("math/bits.deBruijn64tab", laid_math_bits_deBruijn64tab), ("internal/strconv.uint64pow10", laid_internal_strconv_uint64pow10)], narrowed := true }
def BibPairsUptoSaid : Prop := bibPairsUptoRow.holds Tryd.pinned (OpenSpec.upto bibPairsSpec)

/-- 'interpreterlaw21.BibOnce', WHERE WHAT IT READS IS OF BULK AT MOST 1048576: true; the input reads as it did. -/
def bibOnceUptoRow : OpenClaim := { program := "ytpkhoemonibajaadoor", sum := "5b450b0f0af316ec3f2a31ef9021c0ebf410de151ace8ceaa477ff7a118d4dfa", func := "interpreter/interpreterlaw21.BibOnce", spec := "bibOnce", inPlace := ["slices.overlaps[interpreter/api.V4]"], unfollowed := true, recurses := true, named := ["internal/strconv.uint64pow10", "math/bits.deBruijn32tab", "math/bits.deBruijn64tab"], plainKeys := false, apart := false, laid := [("math/bits.deBruijn32tab", laid_math_bits_deBruijn32tab), ("math/bits.deBruijn64tab", laid_math_bits_deBruijn64tab), ("internal/strconv.uint64pow10", laid_internal_strconv_uint64pow10)], narrowed := true }
def BibOnceUptoSaid : Prop := bibOnceUptoRow.holds Tryd.pinned (OpenSpec.upto bibOnceSpec)

/-- 'interpreterlaw21.BibNobody', WHERE WHAT IT READS IS OF BULK AT MOST 1048576: true; the input reads as it did. -/
def bibNobodyUptoRow : OpenClaim := { program := "ytpkhoemonibajaadoor", sum := "5b450b0f0af316ec3f2a31ef9021c0ebf410de151ace8ceaa477ff7a118d4dfa", func := "interpreter/interpreterlaw21.BibNobody", spec := "bibNobody", inPlace := ["slices.overlaps[interpreter/api.V4]"], unfollowed := true, recurses := true, named := ["internal/strconv.uint64pow10", "math/bits.deBruijn32tab", "math/bits.deBruijn64tab"], plainKeys := false, apart := false, laid := [("math/bits.deBruijn32tab", laid_math_bits_deBruijn32tab), ("math/bits.deBruijn64tab", laid_math_bits_deBruijn64tab), ("internal/strconv.uint64pow10", laid_internal_strconv_uint64pow10)], narrowed := true }
def BibNobodyUptoSaid : Prop := bibNobodyUptoRow.holds Tryd.pinned (OpenSpec.upto bibNobodySpec)

end Rows
end Go.Proofs.YtpkhoemonibajaaDoor
