/-
  No cell of these rows narrows 'for every input' (looked for: loops, veiled, ifaces, maps, wideKeys, modest, calm, conditions, laid).
  DERIVED. THE GIVEN ROWS OF THIS SEAT. 17 by the template 'for every input the law returns true; each argument reads behind the call as it read before'; 0 by the template 'total and deterministic' (their statements: YtidoceleobdkmaaTotals.lean).
  GIVEN WITH THE SEED: the statements are not yours to turn. If you find one false, say at which input.
  Laid BY PROGRAM, IN A SANDBOX (cutbox-rows.mjs): the forced cells as the released guide's own fill.sh prints them over the translation c9116f5d4c484bf8… (all of the seat's roots in one cut). By AI agents, Wed Nov 11 2026. No macro, syntax, notation, axiom, sorry.
-/
import Derived.Test.YtidoceleobdkmaaChecked
import GoSem.Claim
import GoSem.ClaimJoined
import GoSem.ClaimMapViews
import Derived.JoinedTies
import Derived.KernelRfl
namespace Go.Proofs.Ytidoceleobdkmaa
/- THE CELL 'sum', in the pinned program and in every row, IS THE sha256 OF THE DUMP (.gsa) THAT YtidoceleobdkmaaProg.lean LOADS. Nothing in Lean hashes anything: it is a label: what it is worth is what the hold of that sum in a sandbox is worth. -/
noncomputable def Try.pinned : Pinned := { name := "ytidoceleobdkmaa", sum := "c9116f5d4c484bf8fd83f5bca78c2cf11f7c8f2019d12d306fc738e0f546e5b0", checked := Try.checked }
namespace Rows
def none {H : Type} : Left H := { results := [], args := [] }

/-- 'interpreterlaw18.PoolSplits': WHATEVER THE INPUT: true; the input reads as it did. -/
def poolSplitsSpec : ChangeSpec := { name := "poolSplits", fn := fun _ => fun
  | [d1, d2, d3] => { results := [.lit (.bool true)], args := [d1, d2, d3] }
  | _ => none }
def poolSplitsRow : OpenClaim := { program := "ytidoceleobdkmaa", sum := "c9116f5d4c484bf8fd83f5bca78c2cf11f7c8f2019d12d306fc738e0f546e5b0", func := "interpreter/interpreterlaw18.PoolSplits", spec := "poolSplits", inPlace := ["slices.overlaps[interpreter/api.V4]"], plainKeys := false, apart := false }
def PoolSplitsSaid : Prop := poolSplitsRow.holds Try.pinned (OpenSpec.ofChange poolSplitsSpec)

/-- ITS FALSE NEIGHBOUR: 'it returns false'. Refute it at one input. -/
def poolSplitsWrong : ChangeSpec := { name := "poolSplits", fn := fun _ => fun
  | [d1, d2, d3] => { results := [.lit (.bool false)], args := [d1, d2, d3] }
  | _ => none }
def PoolSplitsWrongFalsely : Prop := poolSplitsRow.holds Try.pinned (OpenSpec.ofChange poolSplitsWrong)

/-- 'interpreterlaw16.FragOverlaps': WHATEVER THE INPUT: true; the input reads as it did. -/
def fragOverlapsSpec : ChangeSpec := { name := "fragOverlaps", fn := fun _ => fun
  | [d1, d2, d3, d4] => { results := [.lit (.bool true)], args := [d1, d2, d3, d4] }
  | _ => none }
def fragOverlapsRow : OpenClaim := { program := "ytidoceleobdkmaa", sum := "c9116f5d4c484bf8fd83f5bca78c2cf11f7c8f2019d12d306fc738e0f546e5b0", func := "interpreter/interpreterlaw16.FragOverlaps", spec := "fragOverlaps", unfollowed := true, recurses := true, plainKeys := false, apart := false }
def FragOverlapsSaid : Prop := fragOverlapsRow.holds Try.pinned (OpenSpec.ofChange fragOverlapsSpec)

/-- ITS FALSE NEIGHBOUR: 'it returns false'. Refute it at one input. -/
def fragOverlapsWrong : ChangeSpec := { name := "fragOverlaps", fn := fun _ => fun
  | [d1, d2, d3, d4] => { results := [.lit (.bool false)], args := [d1, d2, d3, d4] }
  | _ => none }
def FragOverlapsWrongFalsely : Prop := fragOverlapsRow.holds Try.pinned (OpenSpec.ofChange fragOverlapsWrong)

/-- 'interpreterlaw20.ExpirySplits': WHATEVER THE INPUT: true; the input reads as it did. -/
def expirySplitsSpec : ChangeSpec := { name := "expirySplits", fn := fun _ => fun
  | [d1, d2, d3] => { results := [.lit (.bool true)], args := [d1, d2, d3] }
  | _ => none }
def expirySplitsRow : OpenClaim := { program := "ytidoceleobdkmaa", sum := "c9116f5d4c484bf8fd83f5bca78c2cf11f7c8f2019d12d306fc738e0f546e5b0", func := "interpreter/interpreterlaw20.ExpirySplits", spec := "expirySplits", unfollowed := true, recurses := true, plainKeys := false, apart := false }
def ExpirySplitsSaid : Prop := expirySplitsRow.holds Try.pinned (OpenSpec.ofChange expirySplitsSpec)

/-- ITS FALSE NEIGHBOUR: 'it returns false'. Refute it at one input. -/
def expirySplitsWrong : ChangeSpec := { name := "expirySplits", fn := fun _ => fun
  | [d1, d2, d3] => { results := [.lit (.bool false)], args := [d1, d2, d3] }
  | _ => none }
def ExpirySplitsWrongFalsely : Prop := expirySplitsRow.holds Try.pinned (OpenSpec.ofChange expirySplitsWrong)

/-- 'interpreterlaw20.ExpiryOnce': WHATEVER THE INPUT: true; the input reads as it did. -/
def expiryOnceSpec : ChangeSpec := { name := "expiryOnce", fn := fun _ => fun
  | [d] => { results := [.lit (.bool true)], args := [d] }
  | _ => none }
def expiryOnceRow : OpenClaim := { program := "ytidoceleobdkmaa", sum := "c9116f5d4c484bf8fd83f5bca78c2cf11f7c8f2019d12d306fc738e0f546e5b0", func := "interpreter/interpreterlaw20.ExpiryOnce", spec := "expiryOnce", unfollowed := true, recurses := true, plainKeys := false, apart := false }
def ExpiryOnceSaid : Prop := expiryOnceRow.holds Try.pinned (OpenSpec.ofChange expiryOnceSpec)

/-- ITS FALSE NEIGHBOUR: 'it returns false'. Refute it at one input. -/
def expiryOnceWrong : ChangeSpec := { name := "expiryOnce", fn := fun _ => fun
  | [d] => { results := [.lit (.bool false)], args := [d] }
  | _ => none }
def ExpiryOnceWrongFalsely : Prop := expiryOnceRow.holds Try.pinned (OpenSpec.ofChange expiryOnceWrong)

/-- 'interpreterlaw20.ExpiryPlays': WHATEVER THE INPUT: true; the input reads as it did. -/
def expiryPlaysSpec : ChangeSpec := { name := "expiryPlays", fn := fun _ => fun
  | [d] => { results := [.lit (.bool true)], args := [d] }
  | _ => none }
def expiryPlaysRow : OpenClaim := { program := "ytidoceleobdkmaa", sum := "c9116f5d4c484bf8fd83f5bca78c2cf11f7c8f2019d12d306fc738e0f546e5b0", func := "interpreter/interpreterlaw20.ExpiryPlays", spec := "expiryPlays", unfollowed := true, recurses := true, plainKeys := false, apart := false }
def ExpiryPlaysSaid : Prop := expiryPlaysRow.holds Try.pinned (OpenSpec.ofChange expiryPlaysSpec)

/-- ITS FALSE NEIGHBOUR: 'it returns false'. Refute it at one input. -/
def expiryPlaysWrong : ChangeSpec := { name := "expiryPlays", fn := fun _ => fun
  | [d] => { results := [.lit (.bool false)], args := [d] }
  | _ => none }
def ExpiryPlaysWrongFalsely : Prop := expiryPlaysRow.holds Try.pinned (OpenSpec.ofChange expiryPlaysWrong)

/-- 'interpreterlaw20.ExpiryNobody': WHATEVER THE INPUT: true; the input reads as it did. -/
def expiryNobodySpec : ChangeSpec := { name := "expiryNobody", fn := fun _ => fun
  | [d1, d2] => { results := [.lit (.bool true)], args := [d1, d2] }
  | _ => none }
def expiryNobodyRow : OpenClaim := { program := "ytidoceleobdkmaa", sum := "c9116f5d4c484bf8fd83f5bca78c2cf11f7c8f2019d12d306fc738e0f546e5b0", func := "interpreter/interpreterlaw20.ExpiryNobody", spec := "expiryNobody", unfollowed := true, recurses := true, plainKeys := false, apart := false }
def ExpiryNobodySaid : Prop := expiryNobodyRow.holds Try.pinned (OpenSpec.ofChange expiryNobodySpec)

/-- ITS FALSE NEIGHBOUR: 'it returns false'. Refute it at one input. -/
def expiryNobodyWrong : ChangeSpec := { name := "expiryNobody", fn := fun _ => fun
  | [d1, d2] => { results := [.lit (.bool false)], args := [d1, d2] }
  | _ => none }
def ExpiryNobodyWrongFalsely : Prop := expiryNobodyRow.holds Try.pinned (OpenSpec.ofChange expiryNobodyWrong)

/-- 'interpreterlaw20.ExpiryKnown': WHATEVER THE INPUT: true; the input reads as it did. -/
def expiryKnownSpec : ChangeSpec := { name := "expiryKnown", fn := fun _ => fun
  | [] => { results := [.lit (.bool true)], args := [] }
  | _ => none }
def expiryKnownRow : OpenClaim := { program := "ytidoceleobdkmaa", sum := "c9116f5d4c484bf8fd83f5bca78c2cf11f7c8f2019d12d306fc738e0f546e5b0", func := "interpreter/interpreterlaw20.ExpiryKnown", spec := "expiryKnown", unfollowed := true, recurses := true, plainKeys := false, apart := false }
def ExpiryKnownSaid : Prop := expiryKnownRow.holds Try.pinned (OpenSpec.ofChange expiryKnownSpec)

/-- ITS FALSE NEIGHBOUR: 'it returns false'. Refute it at one input. -/
def expiryKnownWrong : ChangeSpec := { name := "expiryKnown", fn := fun _ => fun
  | [] => { results := [.lit (.bool false)], args := [] }
  | _ => none }
def ExpiryKnownWrongFalsely : Prop := expiryKnownRow.holds Try.pinned (OpenSpec.ofChange expiryKnownWrong)

/-- 'interpreterlaw18.PoolTakes': WHATEVER THE INPUT: true; the input reads as it did. -/
def poolTakesSpec : ChangeSpec := { name := "poolTakes", fn := fun _ => fun
  | [d1, d2, d3, d4] => { results := [.lit (.bool true)], args := [d1, d2, d3, d4] }
  | _ => none }
def poolTakesRow : OpenClaim := { program := "ytidoceleobdkmaa", sum := "c9116f5d4c484bf8fd83f5bca78c2cf11f7c8f2019d12d306fc738e0f546e5b0", func := "interpreter/interpreterlaw18.PoolTakes", spec := "poolTakes", inPlace := ["slices.overlaps[interpreter/api.V4]"], unfollowed := true, recurses := true, plainKeys := false, apart := false }
def PoolTakesSaid : Prop := poolTakesRow.holds Try.pinned (OpenSpec.ofChange poolTakesSpec)

/-- ITS FALSE NEIGHBOUR: 'it returns false'. Refute it at one input. -/
def poolTakesWrong : ChangeSpec := { name := "poolTakes", fn := fun _ => fun
  | [d1, d2, d3, d4] => { results := [.lit (.bool false)], args := [d1, d2, d3, d4] }
  | _ => none }
def PoolTakesWrongFalsely : Prop := poolTakesRow.holds Try.pinned (OpenSpec.ofChange poolTakesWrong)

/-- 'interpreterlaw18.PoolKnown': WHATEVER THE INPUT: true; the input reads as it did. -/
def poolKnownSpec : ChangeSpec := { name := "poolKnown", fn := fun _ => fun
  | [] => { results := [.lit (.bool true)], args := [] }
  | _ => none }
def poolKnownRow : OpenClaim := { program := "ytidoceleobdkmaa", sum := "c9116f5d4c484bf8fd83f5bca78c2cf11f7c8f2019d12d306fc738e0f546e5b0", func := "interpreter/interpreterlaw18.PoolKnown", spec := "poolKnown", inPlace := ["slices.overlaps[interpreter/api.V4]"], unfollowed := true, recurses := true, plainKeys := false, apart := false }
def PoolKnownSaid : Prop := poolKnownRow.holds Try.pinned (OpenSpec.ofChange poolKnownSpec)

/-- ITS FALSE NEIGHBOUR: 'it returns false'. Refute it at one input. -/
def poolKnownWrong : ChangeSpec := { name := "poolKnown", fn := fun _ => fun
  | [] => { results := [.lit (.bool false)], args := [] }
  | _ => none }
def PoolKnownWrongFalsely : Prop := poolKnownRow.holds Try.pinned (OpenSpec.ofChange poolKnownWrong)

/-- 'interpreterlaw18.PoolBack': WHATEVER THE INPUT: true; the input reads as it did. -/
def poolBackSpec : ChangeSpec := { name := "poolBack", fn := fun _ => fun
  | [d1, d2, d3, d4] => { results := [.lit (.bool true)], args := [d1, d2, d3, d4] }
  | _ => none }
def poolBackRow : OpenClaim := { program := "ytidoceleobdkmaa", sum := "c9116f5d4c484bf8fd83f5bca78c2cf11f7c8f2019d12d306fc738e0f546e5b0", func := "interpreter/interpreterlaw18.PoolBack", spec := "poolBack", inPlace := ["slices.overlaps[interpreter/api.V4]"], unfollowed := true, recurses := true, plainKeys := false, apart := false }
def PoolBackSaid : Prop := poolBackRow.holds Try.pinned (OpenSpec.ofChange poolBackSpec)

/-- ITS FALSE NEIGHBOUR: 'it returns false'. Refute it at one input. -/
def poolBackWrong : ChangeSpec := { name := "poolBack", fn := fun _ => fun
  | [d1, d2, d3, d4] => { results := [.lit (.bool false)], args := [d1, d2, d3, d4] }
  | _ => none }
def PoolBackWrongFalsely : Prop := poolBackRow.holds Try.pinned (OpenSpec.ofChange poolBackWrong)

/-- 'interpreterlaw18.PoolPlays': WHATEVER THE INPUT: true; the input reads as it did. -/
def poolPlaysSpec : ChangeSpec := { name := "poolPlays", fn := fun _ => fun
  | [d1, d2, d3, d4] => { results := [.lit (.bool true)], args := [d1, d2, d3, d4] }
  | _ => none }
def poolPlaysRow : OpenClaim := { program := "ytidoceleobdkmaa", sum := "c9116f5d4c484bf8fd83f5bca78c2cf11f7c8f2019d12d306fc738e0f546e5b0", func := "interpreter/interpreterlaw18.PoolPlays", spec := "poolPlays", inPlace := ["slices.overlaps[interpreter/api.V4]"], unfollowed := true, recurses := true, plainKeys := false, apart := false }
def PoolPlaysSaid : Prop := poolPlaysRow.holds Try.pinned (OpenSpec.ofChange poolPlaysSpec)

/-- ITS FALSE NEIGHBOUR: 'it returns false'. Refute it at one input. -/
def poolPlaysWrong : ChangeSpec := { name := "poolPlays", fn := fun _ => fun
  | [d1, d2, d3, d4] => { results := [.lit (.bool false)], args := [d1, d2, d3, d4] }
  | _ => none }
def PoolPlaysWrongFalsely : Prop := poolPlaysRow.holds Try.pinned (OpenSpec.ofChange poolPlaysWrong)

/-- 'interpreterlaw18.PoolClasses': WHATEVER THE INPUT: true; the input reads as it did. -/
def poolClassesSpec : ChangeSpec := { name := "poolClasses", fn := fun _ => fun
  | [d1, d2, d3, d4, d5] => { results := [.lit (.bool true)], args := [d1, d2, d3, d4, d5] }
  | _ => none }
def poolClassesRow : OpenClaim := { program := "ytidoceleobdkmaa", sum := "c9116f5d4c484bf8fd83f5bca78c2cf11f7c8f2019d12d306fc738e0f546e5b0", func := "interpreter/interpreterlaw18.PoolClasses", spec := "poolClasses", inPlace := ["slices.overlaps[interpreter/api.V4]"], unfollowed := true, recurses := true, plainKeys := false, apart := false }
def PoolClassesSaid : Prop := poolClassesRow.holds Try.pinned (OpenSpec.ofChange poolClassesSpec)

/-- ITS FALSE NEIGHBOUR: 'it returns false'. Refute it at one input. -/
def poolClassesWrong : ChangeSpec := { name := "poolClasses", fn := fun _ => fun
  | [d1, d2, d3, d4, d5] => { results := [.lit (.bool false)], args := [d1, d2, d3, d4, d5] }
  | _ => none }
def PoolClassesWrongFalsely : Prop := poolClassesRow.holds Try.pinned (OpenSpec.ofChange poolClassesWrong)

/-- 'interpreterlaw16.FragJoins': WHATEVER THE INPUT: true; the input reads as it did. -/
def fragJoinsSpec : ChangeSpec := { name := "fragJoins", fn := fun _ => fun
  | [d1, d2, d3] => { results := [.lit (.bool true)], args := [d1, d2, d3] }
  | _ => none }
def fragJoinsRow : OpenClaim := { program := "ytidoceleobdkmaa", sum := "c9116f5d4c484bf8fd83f5bca78c2cf11f7c8f2019d12d306fc738e0f546e5b0", func := "interpreter/interpreterlaw16.FragJoins", spec := "fragJoins", unfollowed := true, recurses := true, plainKeys := false, apart := false }
def FragJoinsSaid : Prop := fragJoinsRow.holds Try.pinned (OpenSpec.ofChange fragJoinsSpec)

/-- ITS FALSE NEIGHBOUR: 'it returns false'. Refute it at one input. -/
def fragJoinsWrong : ChangeSpec := { name := "fragJoins", fn := fun _ => fun
  | [d1, d2, d3] => { results := [.lit (.bool false)], args := [d1, d2, d3] }
  | _ => none }
def FragJoinsWrongFalsely : Prop := fragJoinsRow.holds Try.pinned (OpenSpec.ofChange fragJoinsWrong)

/-- 'interpreterlaw16.FragPlays': WHATEVER THE INPUT: true; the input reads as it did. -/
def fragPlaysSpec : ChangeSpec := { name := "fragPlays", fn := fun _ => fun
  | [d1, d2, d3] => { results := [.lit (.bool true)], args := [d1, d2, d3] }
  | _ => none }
def fragPlaysRow : OpenClaim := { program := "ytidoceleobdkmaa", sum := "c9116f5d4c484bf8fd83f5bca78c2cf11f7c8f2019d12d306fc738e0f546e5b0", func := "interpreter/interpreterlaw16.FragPlays", spec := "fragPlays", unfollowed := true, recurses := true, plainKeys := false, apart := false }
def FragPlaysSaid : Prop := fragPlaysRow.holds Try.pinned (OpenSpec.ofChange fragPlaysSpec)

/-- ITS FALSE NEIGHBOUR: 'it returns false'. Refute it at one input. -/
def fragPlaysWrong : ChangeSpec := { name := "fragPlays", fn := fun _ => fun
  | [d1, d2, d3] => { results := [.lit (.bool false)], args := [d1, d2, d3] }
  | _ => none }
def FragPlaysWrongFalsely : Prop := fragPlaysRow.holds Try.pinned (OpenSpec.ofChange fragPlaysWrong)

/-- 'interpreterlaw16.FragNobody': WHATEVER THE INPUT: true; the input reads as it did. -/
def fragNobodySpec : ChangeSpec := { name := "fragNobody", fn := fun _ => fun
  | [d1, d2] => { results := [.lit (.bool true)], args := [d1, d2] }
  | _ => none }
def fragNobodyRow : OpenClaim := { program := "ytidoceleobdkmaa", sum := "c9116f5d4c484bf8fd83f5bca78c2cf11f7c8f2019d12d306fc738e0f546e5b0", func := "interpreter/interpreterlaw16.FragNobody", spec := "fragNobody", unfollowed := true, recurses := true, plainKeys := false, apart := false }
def FragNobodySaid : Prop := fragNobodyRow.holds Try.pinned (OpenSpec.ofChange fragNobodySpec)

/-- ITS FALSE NEIGHBOUR: 'it returns false'. Refute it at one input. -/
def fragNobodyWrong : ChangeSpec := { name := "fragNobody", fn := fun _ => fun
  | [d1, d2] => { results := [.lit (.bool false)], args := [d1, d2] }
  | _ => none }
def FragNobodyWrongFalsely : Prop := fragNobodyRow.holds Try.pinned (OpenSpec.ofChange fragNobodyWrong)

/-- 'interpreterlaw16.FragBounds': WHATEVER THE INPUT: true; the input reads as it did. -/
def fragBoundsSpec : ChangeSpec := { name := "fragBounds", fn := fun _ => fun
  | [d1, d2, d3] => { results := [.lit (.bool true)], args := [d1, d2, d3] }
  | _ => none }
def fragBoundsRow : OpenClaim := { program := "ytidoceleobdkmaa", sum := "c9116f5d4c484bf8fd83f5bca78c2cf11f7c8f2019d12d306fc738e0f546e5b0", func := "interpreter/interpreterlaw16.FragBounds", spec := "fragBounds", unfollowed := true, recurses := true, plainKeys := false, apart := false }
def FragBoundsSaid : Prop := fragBoundsRow.holds Try.pinned (OpenSpec.ofChange fragBoundsSpec)

/-- ITS FALSE NEIGHBOUR: 'it returns false'. Refute it at one input. -/
def fragBoundsWrong : ChangeSpec := { name := "fragBounds", fn := fun _ => fun
  | [d1, d2, d3] => { results := [.lit (.bool false)], args := [d1, d2, d3] }
  | _ => none }
def FragBoundsWrongFalsely : Prop := fragBoundsRow.holds Try.pinned (OpenSpec.ofChange fragBoundsWrong)

/-- 'interpreterlaw16.FragKnown': WHATEVER THE INPUT: true; the input reads as it did. -/
def fragKnownSpec : ChangeSpec := { name := "fragKnown", fn := fun _ => fun
  | [] => { results := [.lit (.bool true)], args := [] }
  | _ => none }
def fragKnownRow : OpenClaim := { program := "ytidoceleobdkmaa", sum := "c9116f5d4c484bf8fd83f5bca78c2cf11f7c8f2019d12d306fc738e0f546e5b0", func := "interpreter/interpreterlaw16.FragKnown", spec := "fragKnown", inPlace := ["internal/abi.NoEscape", "internal/bytealg.MakeNoZero"], unfollowed := true, recurses := true, plainKeys := false, apart := false }
def FragKnownSaid : Prop := fragKnownRow.holds Try.pinned (OpenSpec.ofChange fragKnownSpec)

/-- ITS FALSE NEIGHBOUR: 'it returns false'. Refute it at one input. -/
def fragKnownWrong : ChangeSpec := { name := "fragKnown", fn := fun _ => fun
  | [] => { results := [.lit (.bool false)], args := [] }
  | _ => none }
def FragKnownWrongFalsely : Prop := fragKnownRow.holds Try.pinned (OpenSpec.ofChange fragKnownWrong)

/- THE SECOND FORM. 'bulk': how many values and letters a reading holds, each counted each time it is reached (what is shared counts as often as it is met; a slice's spare places count too). A statement '..UptoSaid' is the law's where the arguments, and the package variables that the reading takes, are together of bulk at most 1048576: NARROWER than '..Said'. Prove '..Said' where nothing that the law and all that it calls make is longer than what came in: it says more and counts as full. Else prove '..UptoSaid'. A law counts once. -/
mutual
def uptoBulk {H : Type} : DataW H → Nat
  | .lit (.string bytes) => bytes.length + 1
  | .lit _ => 1
  | .nil => 1
  | .ptr d => uptoBulk d + 1
  | .slice elems spare => uptoBulkAll elems + uptoBulkAll spare + 1
  | .agg parts => uptoBulkAll parts + 1
  | .iface _ d => uptoBulk d + 1
  | .map entries => uptoBulkEntries entries + 1
  | .held _ => 1
def uptoBulkAll {H : Type} : List (DataW H) → Nat
  | [] => 0
  | d :: r => uptoBulk d + uptoBulkAll r
def uptoBulkEntries {H : Type} : List (Lit × DataW H) → Nat
  | [] => 0
  | x :: r => uptoBulkEntry x + uptoBulkEntries r
def uptoBulkEntry {H : Type} : Lit × DataW H → Nat
  | (.string bytes, d) => bytes.length + uptoBulk d + 1
  | (_, d) => uptoBulk d + 1
 end
def uptoSmall : (H : Type) → List (DataW H) → Bool := fun _ ds => decide (uptoBulkAll ds ≤ 1048576)
def OpenSpec.upto (s : _root_.Go.ChangeSpec) : _root_.Go.OpenSpec := { _root_.Go.OpenSpec.ofChange s with cond := some uptoSmall }

/-- 'interpreterlaw18.PoolSplits', WHERE WHAT IT READS IS OF BULK AT MOST 1048576: true; the input reads as it did. -/
def poolSplitsUptoRow : OpenClaim := { program := "ytidoceleobdkmaa", sum := "c9116f5d4c484bf8fd83f5bca78c2cf11f7c8f2019d12d306fc738e0f546e5b0", func := "interpreter/interpreterlaw18.PoolSplits", spec := "poolSplits", inPlace := ["slices.overlaps[interpreter/api.V4]"], plainKeys := false, apart := false, narrowed := true }
def PoolSplitsUptoSaid : Prop := poolSplitsUptoRow.holds Try.pinned (OpenSpec.upto poolSplitsSpec)

/-- 'interpreterlaw16.FragOverlaps', WHERE WHAT IT READS IS OF BULK AT MOST 1048576: true; the input reads as it did. -/
def fragOverlapsUptoRow : OpenClaim := { program := "ytidoceleobdkmaa", sum := "c9116f5d4c484bf8fd83f5bca78c2cf11f7c8f2019d12d306fc738e0f546e5b0", func := "interpreter/interpreterlaw16.FragOverlaps", spec := "fragOverlaps", unfollowed := true, recurses := true, plainKeys := false, apart := false, narrowed := true }
def FragOverlapsUptoSaid : Prop := fragOverlapsUptoRow.holds Try.pinned (OpenSpec.upto fragOverlapsSpec)

/-- 'interpreterlaw20.ExpirySplits', WHERE WHAT IT READS IS OF BULK AT MOST 1048576: true; the input reads as it did. -/
def expirySplitsUptoRow : OpenClaim := { program := "ytidoceleobdkmaa", sum := "c9116f5d4c484bf8fd83f5bca78c2cf11f7c8f2019d12d306fc738e0f546e5b0", func := "interpreter/interpreterlaw20.ExpirySplits", spec := "expirySplits", unfollowed := true, recurses := true, plainKeys := false, apart := false, narrowed := true }
def ExpirySplitsUptoSaid : Prop := expirySplitsUptoRow.holds Try.pinned (OpenSpec.upto expirySplitsSpec)

/-- 'interpreterlaw20.ExpiryOnce', WHERE WHAT IT READS IS OF BULK AT MOST 1048576: true; the input reads as it did. -/
def expiryOnceUptoRow : OpenClaim := { program := "ytidoceleobdkmaa", sum := "c9116f5d4c484bf8fd83f5bca78c2cf11f7c8f2019d12d306fc738e0f546e5b0", func := "interpreter/interpreterlaw20.ExpiryOnce", spec := "expiryOnce", unfollowed := true, recurses := true, plainKeys := false, apart := false, narrowed := true }
def ExpiryOnceUptoSaid : Prop := expiryOnceUptoRow.holds Try.pinned (OpenSpec.upto expiryOnceSpec)

/-- 'interpreterlaw20.ExpiryPlays', WHERE WHAT IT READS IS OF BULK AT MOST 1048576: true; the input reads as it did. -/
def expiryPlaysUptoRow : OpenClaim := { program := "ytidoceleobdkmaa", sum := "c9116f5d4c484bf8fd83f5bca78c2cf11f7c8f2019d12d306fc738e0f546e5b0", func := "interpreter/interpreterlaw20.ExpiryPlays", spec := "expiryPlays", unfollowed := true, recurses := true, plainKeys := false, apart := false, narrowed := true }
def ExpiryPlaysUptoSaid : Prop := expiryPlaysUptoRow.holds Try.pinned (OpenSpec.upto expiryPlaysSpec)

/-- 'interpreterlaw20.ExpiryNobody', WHERE WHAT IT READS IS OF BULK AT MOST 1048576: true; the input reads as it did. -/
def expiryNobodyUptoRow : OpenClaim := { program := "ytidoceleobdkmaa", sum := "c9116f5d4c484bf8fd83f5bca78c2cf11f7c8f2019d12d306fc738e0f546e5b0", func := "interpreter/interpreterlaw20.ExpiryNobody", spec := "expiryNobody", unfollowed := true, recurses := true, plainKeys := false, apart := false, narrowed := true }
def ExpiryNobodyUptoSaid : Prop := expiryNobodyUptoRow.holds Try.pinned (OpenSpec.upto expiryNobodySpec)

/-- 'interpreterlaw20.ExpiryKnown', WHERE WHAT IT READS IS OF BULK AT MOST 1048576: true; the input reads as it did. -/
def expiryKnownUptoRow : OpenClaim := { program := "ytidoceleobdkmaa", sum := "c9116f5d4c484bf8fd83f5bca78c2cf11f7c8f2019d12d306fc738e0f546e5b0", func := "interpreter/interpreterlaw20.ExpiryKnown", spec := "expiryKnown", unfollowed := true, recurses := true, plainKeys := false, apart := false, narrowed := true }
def ExpiryKnownUptoSaid : Prop := expiryKnownUptoRow.holds Try.pinned (OpenSpec.upto expiryKnownSpec)

/-- 'interpreterlaw18.PoolTakes', WHERE WHAT IT READS IS OF BULK AT MOST 1048576: true; the input reads as it did. -/
def poolTakesUptoRow : OpenClaim := { program := "ytidoceleobdkmaa", sum := "c9116f5d4c484bf8fd83f5bca78c2cf11f7c8f2019d12d306fc738e0f546e5b0", func := "interpreter/interpreterlaw18.PoolTakes", spec := "poolTakes", inPlace := ["slices.overlaps[interpreter/api.V4]"], unfollowed := true, recurses := true, plainKeys := false, apart := false, narrowed := true }
def PoolTakesUptoSaid : Prop := poolTakesUptoRow.holds Try.pinned (OpenSpec.upto poolTakesSpec)

/-- 'interpreterlaw18.PoolKnown', WHERE WHAT IT READS IS OF BULK AT MOST 1048576: true; the input reads as it did. -/
def poolKnownUptoRow : OpenClaim := { program := "ytidoceleobdkmaa", sum := "c9116f5d4c484bf8fd83f5bca78c2cf11f7c8f2019d12d306fc738e0f546e5b0", func := "interpreter/interpreterlaw18.PoolKnown", spec := "poolKnown", inPlace := ["slices.overlaps[interpreter/api.V4]"], unfollowed := true, recurses := true, plainKeys := false, apart := false, narrowed := true }
def PoolKnownUptoSaid : Prop := poolKnownUptoRow.holds Try.pinned (OpenSpec.upto poolKnownSpec)

/-- 'interpreterlaw18.PoolBack', WHERE WHAT IT READS IS OF BULK AT MOST 1048576: true; the input reads as it did. -/
def poolBackUptoRow : OpenClaim := { program := "ytidoceleobdkmaa", sum := "c9116f5d4c484bf8fd83f5bca78c2cf11f7c8f2019d12d306fc738e0f546e5b0", func := "interpreter/interpreterlaw18.PoolBack", spec := "poolBack", inPlace := ["slices.overlaps[interpreter/api.V4]"], unfollowed := true, recurses := true, plainKeys := false, apart := false, narrowed := true }
def PoolBackUptoSaid : Prop := poolBackUptoRow.holds Try.pinned (OpenSpec.upto poolBackSpec)

/-- 'interpreterlaw18.PoolPlays', WHERE WHAT IT READS IS OF BULK AT MOST 1048576: true; the input reads as it did. -/
def poolPlaysUptoRow : OpenClaim := { program := "ytidoceleobdkmaa", sum := "c9116f5d4c484bf8fd83f5bca78c2cf11f7c8f2019d12d306fc738e0f546e5b0", func := "interpreter/interpreterlaw18.PoolPlays", spec := "poolPlays", inPlace := ["slices.overlaps[interpreter/api.V4]"], unfollowed := true, recurses := true, plainKeys := false, apart := false, narrowed := true }
def PoolPlaysUptoSaid : Prop := poolPlaysUptoRow.holds Try.pinned (OpenSpec.upto poolPlaysSpec)

/-- 'interpreterlaw18.PoolClasses', WHERE WHAT IT READS IS OF BULK AT MOST 1048576: true; the input reads as it did. -/
def poolClassesUptoRow : OpenClaim := { program := "ytidoceleobdkmaa", sum := "c9116f5d4c484bf8fd83f5bca78c2cf11f7c8f2019d12d306fc738e0f546e5b0", func := "interpreter/interpreterlaw18.PoolClasses", spec := "poolClasses", inPlace := ["slices.overlaps[interpreter/api.V4]"], unfollowed := true, recurses := true, plainKeys := false, apart := false, narrowed := true }
def PoolClassesUptoSaid : Prop := poolClassesUptoRow.holds Try.pinned (OpenSpec.upto poolClassesSpec)

/-- 'interpreterlaw16.FragJoins', WHERE WHAT IT READS IS OF BULK AT MOST 1048576: true; the input reads as it did. -/
def fragJoinsUptoRow : OpenClaim := { program := "ytidoceleobdkmaa", sum := "c9116f5d4c484bf8fd83f5bca78c2cf11f7c8f2019d12d306fc738e0f546e5b0", func := "interpreter/interpreterlaw16.FragJoins", spec := "fragJoins", unfollowed := true, recurses := true, plainKeys := false, apart := false, narrowed := true }
def FragJoinsUptoSaid : Prop := fragJoinsUptoRow.holds Try.pinned (OpenSpec.upto fragJoinsSpec)

/-- 'interpreterlaw16.FragPlays', WHERE WHAT IT READS IS OF BULK AT MOST 1048576: true; the input reads as it did. -/
def fragPlaysUptoRow : OpenClaim := { program := "ytidoceleobdkmaa", sum := "c9116f5d4c484bf8fd83f5bca78c2cf11f7c8f2019d12d306fc738e0f546e5b0", func := "interpreter/interpreterlaw16.FragPlays", spec := "fragPlays", unfollowed := true, recurses := true, plainKeys := false, apart := false, narrowed := true }
def FragPlaysUptoSaid : Prop := fragPlaysUptoRow.holds Try.pinned (OpenSpec.upto fragPlaysSpec)

/-- 'interpreterlaw16.FragNobody', WHERE WHAT IT READS IS OF BULK AT MOST 1048576: true; the input reads as it did. -/
def fragNobodyUptoRow : OpenClaim := { program := "ytidoceleobdkmaa", sum := "c9116f5d4c484bf8fd83f5bca78c2cf11f7c8f2019d12d306fc738e0f546e5b0", func := "interpreter/interpreterlaw16.FragNobody", spec := "fragNobody", unfollowed := true, recurses := true, plainKeys := false, apart := false, narrowed := true }
def FragNobodyUptoSaid : Prop := fragNobodyUptoRow.holds Try.pinned (OpenSpec.upto fragNobodySpec)

/-- 'interpreterlaw16.FragBounds', WHERE WHAT IT READS IS OF BULK AT MOST 1048576: true; the input reads as it did. -/
def fragBoundsUptoRow : OpenClaim := { program := "ytidoceleobdkmaa", sum := "c9116f5d4c484bf8fd83f5bca78c2cf11f7c8f2019d12d306fc738e0f546e5b0", func := "interpreter/interpreterlaw16.FragBounds", spec := "fragBounds", unfollowed := true, recurses := true, plainKeys := false, apart := false, narrowed := true }
def FragBoundsUptoSaid : Prop := fragBoundsUptoRow.holds Try.pinned (OpenSpec.upto fragBoundsSpec)

/-- 'interpreterlaw16.FragKnown', WHERE WHAT IT READS IS OF BULK AT MOST 1048576: true; the input reads as it did. -/
def fragKnownUptoRow : OpenClaim := { program := "ytidoceleobdkmaa", sum := "c9116f5d4c484bf8fd83f5bca78c2cf11f7c8f2019d12d306fc738e0f546e5b0", func := "interpreter/interpreterlaw16.FragKnown", spec := "fragKnown", inPlace := ["internal/abi.NoEscape", "internal/bytealg.MakeNoZero"], unfollowed := true, recurses := true, plainKeys := false, apart := false, narrowed := true }
def FragKnownUptoSaid : Prop := fragKnownUptoRow.holds Try.pinned (OpenSpec.upto fragKnownSpec)

end Rows
end Go.Proofs.Ytidoceleobdkmaa
