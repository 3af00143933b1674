/-
  No cell of these rows narrows 'for every input' (looked for: loops, veiled, ifaces, maps, wideKeys, modest, calm, conditions, laid).
  DERIVED. THE GIVEN ROWS OF THIS SEAT. 18 by the template 'for every input the law returns true; each argument reads behind the call as it read before'; 0 by the template 'total and deterministic' (their statements: YtakmcpadkanggaaTotals.lean).
  GIVEN WITH THE SEED: the statements are not yours to turn. If you find one false, say at which input.
  Laid BY PROGRAM, IN A SANDBOX (cutbox-rows.mjs): the forced cells as the released guide's own fill.sh prints them over the translation 9a81f13271e26540… (all of the seat's roots in one cut). By AI agents, Wed Nov 11 2026. No macro, syntax, notation, axiom, sorry.
-/
import Derived.Test.YtakmcpadkanggaaChecked
import GoSem.Claim
import GoSem.ClaimJoined
import GoSem.ClaimMapViews
import Derived.JoinedTies
import Derived.KernelRfl
namespace Go.Proofs.Ytakmcpadkanggaa
/- THE CELL 'sum', in the pinned program and in every row, IS THE sha256 OF THE DUMP (.gsa) THAT YtakmcpadkanggaaProg.lean LOADS. Nothing in Lean hashes anything: it is a label: what it is worth is what the hold of that sum in a sandbox is worth. -/
noncomputable def Try.pinned : Pinned := { name := "ytakmcpadkanggaa", sum := "9a81f13271e265405659b8cfd5a851fd9f54f5c13b2fe0ce0dea01bb69f6c30f", checked := Try.checked }
namespace Rows
def none {H : Type} : Left H := { results := [], args := [] }

/-- 'quernlaw13.SchedNames': WHATEVER THE INPUT: true; the input reads as it did. -/
def schedNamesSpec : ChangeSpec := { name := "schedNames", fn := fun _ => fun
  | [] => { results := [.lit (.bool true)], args := [] }
  | _ => none }
def schedNamesRow : OpenClaim := { program := "ytakmcpadkanggaa", sum := "9a81f13271e265405659b8cfd5a851fd9f54f5c13b2fe0ce0dea01bb69f6c30f", func := "quern/quernlaw13.SchedNames", spec := "schedNames", unfollowed := true, recurses := true, apart := false }
def SchedNamesSaid : Prop := schedNamesRow.holds Try.pinned (OpenSpec.ofChange schedNamesSpec)

/-- ITS FALSE NEIGHBOUR: 'it returns false'. Refute it at one input. -/
def schedNamesWrong : ChangeSpec := { name := "schedNames", fn := fun _ => fun
  | [] => { results := [.lit (.bool false)], args := [] }
  | _ => none }
def SchedNamesWrongFalsely : Prop := schedNamesRow.holds Try.pinned (OpenSpec.ofChange schedNamesWrong)

/-- 'quernlaw13.SchedValid': WHATEVER THE INPUT: true; the input reads as it did. -/
def schedValidSpec : ChangeSpec := { name := "schedValid", fn := fun _ => fun
  | [d] => { results := [.lit (.bool true)], args := [d] }
  | _ => none }
def schedValidRow : OpenClaim := { program := "ytakmcpadkanggaa", sum := "9a81f13271e265405659b8cfd5a851fd9f54f5c13b2fe0ce0dea01bb69f6c30f", func := "quern/quernlaw13.SchedValid", spec := "schedValid", unfollowed := true, recurses := true, apart := false }
def SchedValidSaid : Prop := schedValidRow.holds Try.pinned (OpenSpec.ofChange schedValidSpec)

/-- ITS FALSE NEIGHBOUR: 'it returns false'. Refute it at one input. -/
def schedValidWrong : ChangeSpec := { name := "schedValid", fn := fun _ => fun
  | [d] => { results := [.lit (.bool false)], args := [d] }
  | _ => none }
def SchedValidWrongFalsely : Prop := schedValidRow.holds Try.pinned (OpenSpec.ofChange schedValidWrong)

/-- 'quernlaw13.SchedBegins': WHATEVER THE INPUT: true; the input reads as it did. -/
def schedBeginsSpec : ChangeSpec := { name := "schedBegins", fn := fun _ => fun
  | [d1, d2, d3] => { results := [.lit (.bool true)], args := [d1, d2, d3] }
  | _ => none }
def schedBeginsRow : OpenClaim := { program := "ytakmcpadkanggaa", sum := "9a81f13271e265405659b8cfd5a851fd9f54f5c13b2fe0ce0dea01bb69f6c30f", func := "quern/quernlaw13.SchedBegins", spec := "schedBegins", unfollowed := true, recurses := true, apart := false }
def SchedBeginsSaid : Prop := schedBeginsRow.holds Try.pinned (OpenSpec.ofChange schedBeginsSpec)

/-- ITS FALSE NEIGHBOUR: 'it returns false'. Refute it at one input. -/
def schedBeginsWrong : ChangeSpec := { name := "schedBegins", fn := fun _ => fun
  | [d1, d2, d3] => { results := [.lit (.bool false)], args := [d1, d2, d3] }
  | _ => none }
def SchedBeginsWrongFalsely : Prop := schedBeginsRow.holds Try.pinned (OpenSpec.ofChange schedBeginsWrong)

/-- 'quernlaw13.SchedChannels': WHATEVER THE INPUT: true; the input reads as it did. -/
def schedChannelsSpec : ChangeSpec := { name := "schedChannels", fn := fun _ => fun
  | [d1, d2] => { results := [.lit (.bool true)], args := [d1, d2] }
  | _ => none }
def schedChannelsRow : OpenClaim := { program := "ytakmcpadkanggaa", sum := "9a81f13271e265405659b8cfd5a851fd9f54f5c13b2fe0ce0dea01bb69f6c30f", func := "quern/quernlaw13.SchedChannels", spec := "schedChannels", unfollowed := true, recurses := true, apart := false }
def SchedChannelsSaid : Prop := schedChannelsRow.holds Try.pinned (OpenSpec.ofChange schedChannelsSpec)

/-- ITS FALSE NEIGHBOUR: 'it returns false'. Refute it at one input. -/
def schedChannelsWrong : ChangeSpec := { name := "schedChannels", fn := fun _ => fun
  | [d1, d2] => { results := [.lit (.bool false)], args := [d1, d2] }
  | _ => none }
def SchedChannelsWrongFalsely : Prop := schedChannelsRow.holds Try.pinned (OpenSpec.ofChange schedChannelsWrong)

/-- 'quernlaw13.SchedLocks': WHATEVER THE INPUT: true; the input reads as it did. -/
def schedLocksSpec : ChangeSpec := { name := "schedLocks", fn := fun _ => fun
  | [d1, d2] => { results := [.lit (.bool true)], args := [d1, d2] }
  | _ => none }
def schedLocksRow : OpenClaim := { program := "ytakmcpadkanggaa", sum := "9a81f13271e265405659b8cfd5a851fd9f54f5c13b2fe0ce0dea01bb69f6c30f", func := "quern/quernlaw13.SchedLocks", spec := "schedLocks", unfollowed := true, recurses := true, apart := false }
def SchedLocksSaid : Prop := schedLocksRow.holds Try.pinned (OpenSpec.ofChange schedLocksSpec)

/-- ITS FALSE NEIGHBOUR: 'it returns false'. Refute it at one input. -/
def schedLocksWrong : ChangeSpec := { name := "schedLocks", fn := fun _ => fun
  | [d1, d2] => { results := [.lit (.bool false)], args := [d1, d2] }
  | _ => none }
def SchedLocksWrongFalsely : Prop := schedLocksRow.holds Try.pinned (OpenSpec.ofChange schedLocksWrong)

/-- 'quernlaw13.SchedTurns': WHATEVER THE INPUT: true; the input reads as it did. -/
def schedTurnsSpec : ChangeSpec := { name := "schedTurns", fn := fun _ => fun
  | [d1, d2, d3] => { results := [.lit (.bool true)], args := [d1, d2, d3] }
  | _ => none }
def schedTurnsRow : OpenClaim := { program := "ytakmcpadkanggaa", sum := "9a81f13271e265405659b8cfd5a851fd9f54f5c13b2fe0ce0dea01bb69f6c30f", func := "quern/quernlaw13.SchedTurns", spec := "schedTurns", unfollowed := true, recurses := true, apart := false }
def SchedTurnsSaid : Prop := schedTurnsRow.holds Try.pinned (OpenSpec.ofChange schedTurnsSpec)

/-- ITS FALSE NEIGHBOUR: 'it returns false'. Refute it at one input. -/
def schedTurnsWrong : ChangeSpec := { name := "schedTurns", fn := fun _ => fun
  | [d1, d2, d3] => { results := [.lit (.bool false)], args := [d1, d2, d3] }
  | _ => none }
def SchedTurnsWrongFalsely : Prop := schedTurnsRow.holds Try.pinned (OpenSpec.ofChange schedTurnsWrong)

/-- 'quernlaw14.TraceValids': WHATEVER THE INPUT: true; the input reads as it did. -/
def traceValidsSpec : ChangeSpec := { name := "traceValids", fn := fun _ => fun
  | [d1, d2] => { results := [.lit (.bool true)], args := [d1, d2] }
  | _ => none }
def traceValidsRow : OpenClaim := { program := "ytakmcpadkanggaa", sum := "9a81f13271e265405659b8cfd5a851fd9f54f5c13b2fe0ce0dea01bb69f6c30f", func := "quern/quernlaw14.TraceValids", spec := "traceValids", unfollowed := true, recurses := true, apart := false }
def TraceValidsSaid : Prop := traceValidsRow.holds Try.pinned (OpenSpec.ofChange traceValidsSpec)

/-- ITS FALSE NEIGHBOUR: 'it returns false'. Refute it at one input. -/
def traceValidsWrong : ChangeSpec := { name := "traceValids", fn := fun _ => fun
  | [d1, d2] => { results := [.lit (.bool false)], args := [d1, d2] }
  | _ => none }
def TraceValidsWrongFalsely : Prop := traceValidsRow.holds Try.pinned (OpenSpec.ofChange traceValidsWrong)

/-- 'quernlaw14.TraceLocks': WHATEVER THE INPUT: true; the input reads as it did. -/
def traceLocksSpec : ChangeSpec := { name := "traceLocks", fn := fun _ => fun
  | [d1, d2, d3] => { results := [.lit (.bool true)], args := [d1, d2, d3] }
  | _ => none }
def traceLocksRow : OpenClaim := { program := "ytakmcpadkanggaa", sum := "9a81f13271e265405659b8cfd5a851fd9f54f5c13b2fe0ce0dea01bb69f6c30f", func := "quern/quernlaw14.TraceLocks", spec := "traceLocks", unfollowed := true, recurses := true, apart := false }
def TraceLocksSaid : Prop := traceLocksRow.holds Try.pinned (OpenSpec.ofChange traceLocksSpec)

/-- ITS FALSE NEIGHBOUR: 'it returns false'. Refute it at one input. -/
def traceLocksWrong : ChangeSpec := { name := "traceLocks", fn := fun _ => fun
  | [d1, d2, d3] => { results := [.lit (.bool false)], args := [d1, d2, d3] }
  | _ => none }
def TraceLocksWrongFalsely : Prop := traceLocksRow.holds Try.pinned (OpenSpec.ofChange traceLocksWrong)

/-- 'quernlaw14.TraceEdges': WHATEVER THE INPUT: true; the input reads as it did. -/
def traceEdgesSpec : ChangeSpec := { name := "traceEdges", fn := fun _ => fun
  | [d1, d2] => { results := [.lit (.bool true)], args := [d1, d2] }
  | _ => none }
def traceEdgesRow : OpenClaim := { program := "ytakmcpadkanggaa", sum := "9a81f13271e265405659b8cfd5a851fd9f54f5c13b2fe0ce0dea01bb69f6c30f", func := "quern/quernlaw14.TraceEdges", spec := "traceEdges", unfollowed := true, recurses := true, apart := false }
def TraceEdgesSaid : Prop := traceEdgesRow.holds Try.pinned (OpenSpec.ofChange traceEdgesSpec)

/-- ITS FALSE NEIGHBOUR: 'it returns false'. Refute it at one input. -/
def traceEdgesWrong : ChangeSpec := { name := "traceEdges", fn := fun _ => fun
  | [d1, d2] => { results := [.lit (.bool false)], args := [d1, d2] }
  | _ => none }
def TraceEdgesWrongFalsely : Prop := traceEdgesRow.holds Try.pinned (OpenSpec.ofChange traceEdgesWrong)

/-- 'quernlaw14.TraceClocks': WHATEVER THE INPUT: true; the input reads as it did. -/
def traceClocksSpec : ChangeSpec := { name := "traceClocks", fn := fun _ => fun
  | [d1, d2] => { results := [.lit (.bool true)], args := [d1, d2] }
  | _ => none }
def traceClocksRow : OpenClaim := { program := "ytakmcpadkanggaa", sum := "9a81f13271e265405659b8cfd5a851fd9f54f5c13b2fe0ce0dea01bb69f6c30f", func := "quern/quernlaw14.TraceClocks", spec := "traceClocks", unfollowed := true, recurses := true, apart := false }
def TraceClocksSaid : Prop := traceClocksRow.holds Try.pinned (OpenSpec.ofChange traceClocksSpec)

/-- ITS FALSE NEIGHBOUR: 'it returns false'. Refute it at one input. -/
def traceClocksWrong : ChangeSpec := { name := "traceClocks", fn := fun _ => fun
  | [d1, d2] => { results := [.lit (.bool false)], args := [d1, d2] }
  | _ => none }
def TraceClocksWrongFalsely : Prop := traceClocksRow.holds Try.pinned (OpenSpec.ofChange traceClocksWrong)

/-- 'quernlaw14.TraceRaces': WHATEVER THE INPUT: true; the input reads as it did. -/
def traceRacesSpec : ChangeSpec := { name := "traceRaces", fn := fun _ => fun
  | [d1, d2, d3] => { results := [.lit (.bool true)], args := [d1, d2, d3] }
  | _ => none }
def traceRacesRow : OpenClaim := { program := "ytakmcpadkanggaa", sum := "9a81f13271e265405659b8cfd5a851fd9f54f5c13b2fe0ce0dea01bb69f6c30f", func := "quern/quernlaw14.TraceRaces", spec := "traceRaces", unfollowed := true, recurses := true, apart := false }
def TraceRacesSaid : Prop := traceRacesRow.holds Try.pinned (OpenSpec.ofChange traceRacesSpec)

/-- ITS FALSE NEIGHBOUR: 'it returns false'. Refute it at one input. -/
def traceRacesWrong : ChangeSpec := { name := "traceRaces", fn := fun _ => fun
  | [d1, d2, d3] => { results := [.lit (.bool false)], args := [d1, d2, d3] }
  | _ => none }
def TraceRacesWrongFalsely : Prop := traceRacesRow.holds Try.pinned (OpenSpec.ofChange traceRacesWrong)

/-- 'quernlaw14.TraceOrder': WHATEVER THE INPUT: true; the input reads as it did. -/
def traceOrderSpec : ChangeSpec := { name := "traceOrder", fn := fun _ => fun
  | [d1, d2, d3] => { results := [.lit (.bool true)], args := [d1, d2, d3] }
  | _ => none }
def traceOrderRow : OpenClaim := { program := "ytakmcpadkanggaa", sum := "9a81f13271e265405659b8cfd5a851fd9f54f5c13b2fe0ce0dea01bb69f6c30f", func := "quern/quernlaw14.TraceOrder", spec := "traceOrder", unfollowed := true, recurses := true, apart := false }
def TraceOrderSaid : Prop := traceOrderRow.holds Try.pinned (OpenSpec.ofChange traceOrderSpec)

/-- ITS FALSE NEIGHBOUR: 'it returns false'. Refute it at one input. -/
def traceOrderWrong : ChangeSpec := { name := "traceOrder", fn := fun _ => fun
  | [d1, d2, d3] => { results := [.lit (.bool false)], args := [d1, d2, d3] }
  | _ => none }
def TraceOrderWrongFalsely : Prop := traceOrderRow.holds Try.pinned (OpenSpec.ofChange traceOrderWrong)

/-- 'quernlaw14.TraceOrders': WHATEVER THE INPUT: true; the input reads as it did. -/
def traceOrdersSpec : ChangeSpec := { name := "traceOrders", fn := fun _ => fun
  | [d1, d2, d3] => { results := [.lit (.bool true)], args := [d1, d2, d3] }
  | _ => none }
def traceOrdersRow : OpenClaim := { program := "ytakmcpadkanggaa", sum := "9a81f13271e265405659b8cfd5a851fd9f54f5c13b2fe0ce0dea01bb69f6c30f", func := "quern/quernlaw14.TraceOrders", spec := "traceOrders", unfollowed := true, recurses := true, apart := false }
def TraceOrdersSaid : Prop := traceOrdersRow.holds Try.pinned (OpenSpec.ofChange traceOrdersSpec)

/-- ITS FALSE NEIGHBOUR: 'it returns false'. Refute it at one input. -/
def traceOrdersWrong : ChangeSpec := { name := "traceOrders", fn := fun _ => fun
  | [d1, d2, d3] => { results := [.lit (.bool false)], args := [d1, d2, d3] }
  | _ => none }
def TraceOrdersWrongFalsely : Prop := traceOrdersRow.holds Try.pinned (OpenSpec.ofChange traceOrdersWrong)

/-- 'quernlaw14.TraceWays': WHATEVER THE INPUT: true; the input reads as it did. -/
def traceWaysSpec : ChangeSpec := { name := "traceWays", fn := fun _ => fun
  | [d1, d2, d3] => { results := [.lit (.bool true)], args := [d1, d2, d3] }
  | _ => none }
def traceWaysRow : OpenClaim := { program := "ytakmcpadkanggaa", sum := "9a81f13271e265405659b8cfd5a851fd9f54f5c13b2fe0ce0dea01bb69f6c30f", func := "quern/quernlaw14.TraceWays", spec := "traceWays", unfollowed := true, recurses := true, apart := false }
def TraceWaysSaid : Prop := traceWaysRow.holds Try.pinned (OpenSpec.ofChange traceWaysSpec)

/-- ITS FALSE NEIGHBOUR: 'it returns false'. Refute it at one input. -/
def traceWaysWrong : ChangeSpec := { name := "traceWays", fn := fun _ => fun
  | [d1, d2, d3] => { results := [.lit (.bool false)], args := [d1, d2, d3] }
  | _ => none }
def TraceWaysWrongFalsely : Prop := traceWaysRow.holds Try.pinned (OpenSpec.ofChange traceWaysWrong)

/-- 'quernlaw14.TraceGuards': WHATEVER THE INPUT: true; the input reads as it did. -/
def traceGuardsSpec : ChangeSpec := { name := "traceGuards", fn := fun _ => fun
  | [d1, d2, d3] => { results := [.lit (.bool true)], args := [d1, d2, d3] }
  | _ => none }
def traceGuardsRow : OpenClaim := { program := "ytakmcpadkanggaa", sum := "9a81f13271e265405659b8cfd5a851fd9f54f5c13b2fe0ce0dea01bb69f6c30f", func := "quern/quernlaw14.TraceGuards", spec := "traceGuards", unfollowed := true, recurses := true, apart := false }
def TraceGuardsSaid : Prop := traceGuardsRow.holds Try.pinned (OpenSpec.ofChange traceGuardsSpec)

/-- ITS FALSE NEIGHBOUR: 'it returns false'. Refute it at one input. -/
def traceGuardsWrong : ChangeSpec := { name := "traceGuards", fn := fun _ => fun
  | [d1, d2, d3] => { results := [.lit (.bool false)], args := [d1, d2, d3] }
  | _ => none }
def TraceGuardsWrongFalsely : Prop := traceGuardsRow.holds Try.pinned (OpenSpec.ofChange traceGuardsWrong)

/-- 'quernlaw14.TracePlayed': WHATEVER THE INPUT: true; the input reads as it did. -/
def tracePlayedSpec : ChangeSpec := { name := "tracePlayed", fn := fun _ => fun
  | [d1, d2, d3] => { results := [.lit (.bool true)], args := [d1, d2, d3] }
  | _ => none }
def tracePlayedRow : OpenClaim := { program := "ytakmcpadkanggaa", sum := "9a81f13271e265405659b8cfd5a851fd9f54f5c13b2fe0ce0dea01bb69f6c30f", func := "quern/quernlaw14.TracePlayed", spec := "tracePlayed", unfollowed := true, recurses := true, apart := false }
def TracePlayedSaid : Prop := tracePlayedRow.holds Try.pinned (OpenSpec.ofChange tracePlayedSpec)

/-- ITS FALSE NEIGHBOUR: 'it returns false'. Refute it at one input. -/
def tracePlayedWrong : ChangeSpec := { name := "tracePlayed", fn := fun _ => fun
  | [d1, d2, d3] => { results := [.lit (.bool false)], args := [d1, d2, d3] }
  | _ => none }
def TracePlayedWrongFalsely : Prop := tracePlayedRow.holds Try.pinned (OpenSpec.ofChange tracePlayedWrong)

/-- 'querntop.WholeOrdered': WHATEVER THE INPUT: true; the input reads as it did. -/
def wholeOrderedSpec : ChangeSpec := { name := "wholeOrdered", fn := fun _ => fun
  | [d1, d2, d3] => { results := [.lit (.bool true)], args := [d1, d2, d3] }
  | _ => none }
def wholeOrderedRow : OpenClaim := { program := "ytakmcpadkanggaa", sum := "9a81f13271e265405659b8cfd5a851fd9f54f5c13b2fe0ce0dea01bb69f6c30f", func := "quern/querntop.WholeOrdered", spec := "wholeOrdered", unfollowed := true, recurses := true, apart := false }
def WholeOrderedSaid : Prop := wholeOrderedRow.holds Try.pinned (OpenSpec.ofChange wholeOrderedSpec)

/-- ITS FALSE NEIGHBOUR: 'it returns false'. Refute it at one input. -/
def wholeOrderedWrong : ChangeSpec := { name := "wholeOrdered", fn := fun _ => fun
  | [d1, d2, d3] => { results := [.lit (.bool false)], args := [d1, d2, d3] }
  | _ => none }
def WholeOrderedWrongFalsely : Prop := wholeOrderedRow.holds Try.pinned (OpenSpec.ofChange wholeOrderedWrong)

/-- 'querntop.WholeSafe': WHATEVER THE INPUT: true; the input reads as it did. -/
def wholeSafeSpec : ChangeSpec := { name := "wholeSafe", fn := fun _ => fun
  | [d1, d2, d3] => { results := [.lit (.bool true)], args := [d1, d2, d3] }
  | _ => none }
def wholeSafeRow : OpenClaim := { program := "ytakmcpadkanggaa", sum := "9a81f13271e265405659b8cfd5a851fd9f54f5c13b2fe0ce0dea01bb69f6c30f", func := "quern/querntop.WholeSafe", spec := "wholeSafe", unfollowed := true, recurses := true, apart := false }
def WholeSafeSaid : Prop := wholeSafeRow.holds Try.pinned (OpenSpec.ofChange wholeSafeSpec)

/-- ITS FALSE NEIGHBOUR: 'it returns false'. Refute it at one input. -/
def wholeSafeWrong : ChangeSpec := { name := "wholeSafe", fn := fun _ => fun
  | [d1, d2, d3] => { results := [.lit (.bool false)], args := [d1, d2, d3] }
  | _ => none }
def WholeSafeWrongFalsely : Prop := wholeSafeRow.holds Try.pinned (OpenSpec.ofChange wholeSafeWrong)

/- THE SECOND FORM. 'bulk': how many values and letters a reading holds, each counted each time it is reached (what is shared counts as often as it is met; a slice's spare places count too). A statement '..UptoSaid' is the law's where the arguments, and the package variables that the reading takes, are together of bulk at most 1048576: NARROWER than '..Said'. Prove '..Said' where nothing that the law and all that it calls make is longer than what came in: it says more and counts as full. Else prove '..UptoSaid'. A law counts once. -/
mutual
def uptoBulk {H : Type} : DataW H → Nat
  | .lit (.string bytes) => bytes.length + 1
  | .lit _ => 1
  | .nil => 1
  | .ptr d => uptoBulk d + 1
  | .slice elems spare => uptoBulkAll elems + uptoBulkAll spare + 1
  | .agg parts => uptoBulkAll parts + 1
  | .iface _ d => uptoBulk d + 1
  | .map entries => uptoBulkEntries entries + 1
  | .held _ => 1
def uptoBulkAll {H : Type} : List (DataW H) → Nat
  | [] => 0
  | d :: r => uptoBulk d + uptoBulkAll r
def uptoBulkEntries {H : Type} : List (Lit × DataW H) → Nat
  | [] => 0
  | x :: r => uptoBulkEntry x + uptoBulkEntries r
def uptoBulkEntry {H : Type} : Lit × DataW H → Nat
  | (.string bytes, d) => bytes.length + uptoBulk d + 1
  | (_, d) => uptoBulk d + 1
 end
def uptoSmall : (H : Type) → List (DataW H) → Bool := fun _ ds => decide (uptoBulkAll ds ≤ 1048576)
def OpenSpec.upto (s : _root_.Go.ChangeSpec) : _root_.Go.OpenSpec := { _root_.Go.OpenSpec.ofChange s with cond := some uptoSmall }

/-- 'quernlaw13.SchedNames', WHERE WHAT IT READS IS OF BULK AT MOST 1048576: true; the input reads as it did. -/
def schedNamesUptoRow : OpenClaim := { program := "ytakmcpadkanggaa", sum := "9a81f13271e265405659b8cfd5a851fd9f54f5c13b2fe0ce0dea01bb69f6c30f", func := "quern/quernlaw13.SchedNames", spec := "schedNames", unfollowed := true, recurses := true, apart := false, narrowed := true }
def SchedNamesUptoSaid : Prop := schedNamesUptoRow.holds Try.pinned (OpenSpec.upto schedNamesSpec)

/-- 'quernlaw13.SchedValid', WHERE WHAT IT READS IS OF BULK AT MOST 1048576: true; the input reads as it did. -/
def schedValidUptoRow : OpenClaim := { program := "ytakmcpadkanggaa", sum := "9a81f13271e265405659b8cfd5a851fd9f54f5c13b2fe0ce0dea01bb69f6c30f", func := "quern/quernlaw13.SchedValid", spec := "schedValid", unfollowed := true, recurses := true, apart := false, narrowed := true }
def SchedValidUptoSaid : Prop := schedValidUptoRow.holds Try.pinned (OpenSpec.upto schedValidSpec)

/-- 'quernlaw13.SchedBegins', WHERE WHAT IT READS IS OF BULK AT MOST 1048576: true; the input reads as it did. -/
def schedBeginsUptoRow : OpenClaim := { program := "ytakmcpadkanggaa", sum := "9a81f13271e265405659b8cfd5a851fd9f54f5c13b2fe0ce0dea01bb69f6c30f", func := "quern/quernlaw13.SchedBegins", spec := "schedBegins", unfollowed := true, recurses := true, apart := false, narrowed := true }
def SchedBeginsUptoSaid : Prop := schedBeginsUptoRow.holds Try.pinned (OpenSpec.upto schedBeginsSpec)

/-- 'quernlaw13.SchedChannels', WHERE WHAT IT READS IS OF BULK AT MOST 1048576: true; the input reads as it did. -/
def schedChannelsUptoRow : OpenClaim := { program := "ytakmcpadkanggaa", sum := "9a81f13271e265405659b8cfd5a851fd9f54f5c13b2fe0ce0dea01bb69f6c30f", func := "quern/quernlaw13.SchedChannels", spec := "schedChannels", unfollowed := true, recurses := true, apart := false, narrowed := true }
def SchedChannelsUptoSaid : Prop := schedChannelsUptoRow.holds Try.pinned (OpenSpec.upto schedChannelsSpec)

/-- 'quernlaw13.SchedLocks', WHERE WHAT IT READS IS OF BULK AT MOST 1048576: true; the input reads as it did. -/
def schedLocksUptoRow : OpenClaim := { program := "ytakmcpadkanggaa", sum := "9a81f13271e265405659b8cfd5a851fd9f54f5c13b2fe0ce0dea01bb69f6c30f", func := "quern/quernlaw13.SchedLocks", spec := "schedLocks", unfollowed := true, recurses := true, apart := false, narrowed := true }
def SchedLocksUptoSaid : Prop := schedLocksUptoRow.holds Try.pinned (OpenSpec.upto schedLocksSpec)

/-- 'quernlaw13.SchedTurns', WHERE WHAT IT READS IS OF BULK AT MOST 1048576: true; the input reads as it did. -/
def schedTurnsUptoRow : OpenClaim := { program := "ytakmcpadkanggaa", sum := "9a81f13271e265405659b8cfd5a851fd9f54f5c13b2fe0ce0dea01bb69f6c30f", func := "quern/quernlaw13.SchedTurns", spec := "schedTurns", unfollowed := true, recurses := true, apart := false, narrowed := true }
def SchedTurnsUptoSaid : Prop := schedTurnsUptoRow.holds Try.pinned (OpenSpec.upto schedTurnsSpec)

/-- 'quernlaw14.TraceValids', WHERE WHAT IT READS IS OF BULK AT MOST 1048576: true; the input reads as it did. -/
def traceValidsUptoRow : OpenClaim := { program := "ytakmcpadkanggaa", sum := "9a81f13271e265405659b8cfd5a851fd9f54f5c13b2fe0ce0dea01bb69f6c30f", func := "quern/quernlaw14.TraceValids", spec := "traceValids", unfollowed := true, recurses := true, apart := false, narrowed := true }
def TraceValidsUptoSaid : Prop := traceValidsUptoRow.holds Try.pinned (OpenSpec.upto traceValidsSpec)

/-- 'quernlaw14.TraceLocks', WHERE WHAT IT READS IS OF BULK AT MOST 1048576: true; the input reads as it did. -/
def traceLocksUptoRow : OpenClaim := { program := "ytakmcpadkanggaa", sum := "9a81f13271e265405659b8cfd5a851fd9f54f5c13b2fe0ce0dea01bb69f6c30f", func := "quern/quernlaw14.TraceLocks", spec := "traceLocks", unfollowed := true, recurses := true, apart := false, narrowed := true }
def TraceLocksUptoSaid : Prop := traceLocksUptoRow.holds Try.pinned (OpenSpec.upto traceLocksSpec)

/-- 'quernlaw14.TraceEdges', WHERE WHAT IT READS IS OF BULK AT MOST 1048576: true; the input reads as it did. -/
def traceEdgesUptoRow : OpenClaim := { program := "ytakmcpadkanggaa", sum := "9a81f13271e265405659b8cfd5a851fd9f54f5c13b2fe0ce0dea01bb69f6c30f", func := "quern/quernlaw14.TraceEdges", spec := "traceEdges", unfollowed := true, recurses := true, apart := false, narrowed := true }
def TraceEdgesUptoSaid : Prop := traceEdgesUptoRow.holds Try.pinned (OpenSpec.upto traceEdgesSpec)

/-- 'quernlaw14.TraceClocks', WHERE WHAT IT READS IS OF BULK AT MOST 1048576: true; the input reads as it did. -/
def traceClocksUptoRow : OpenClaim := { program := "ytakmcpadkanggaa", sum := "9a81f13271e265405659b8cfd5a851fd9f54f5c13b2fe0ce0dea01bb69f6c30f", func := "quern/quernlaw14.TraceClocks", spec := "traceClocks", unfollowed := true, recurses := true, apart := false, narrowed := true }
def TraceClocksUptoSaid : Prop := traceClocksUptoRow.holds Try.pinned (OpenSpec.upto traceClocksSpec)

/-- 'quernlaw14.TraceRaces', WHERE WHAT IT READS IS OF BULK AT MOST 1048576: true; the input reads as it did. -/
def traceRacesUptoRow : OpenClaim := { program := "ytakmcpadkanggaa", sum := "9a81f13271e265405659b8cfd5a851fd9f54f5c13b2fe0ce0dea01bb69f6c30f", func := "quern/quernlaw14.TraceRaces", spec := "traceRaces", unfollowed := true, recurses := true, apart := false, narrowed := true }
def TraceRacesUptoSaid : Prop := traceRacesUptoRow.holds Try.pinned (OpenSpec.upto traceRacesSpec)

/-- 'quernlaw14.TraceOrder', WHERE WHAT IT READS IS OF BULK AT MOST 1048576: true; the input reads as it did. -/
def traceOrderUptoRow : OpenClaim := { program := "ytakmcpadkanggaa", sum := "9a81f13271e265405659b8cfd5a851fd9f54f5c13b2fe0ce0dea01bb69f6c30f", func := "quern/quernlaw14.TraceOrder", spec := "traceOrder", unfollowed := true, recurses := true, apart := false, narrowed := true }
def TraceOrderUptoSaid : Prop := traceOrderUptoRow.holds Try.pinned (OpenSpec.upto traceOrderSpec)

/-- 'quernlaw14.TraceOrders', WHERE WHAT IT READS IS OF BULK AT MOST 1048576: true; the input reads as it did. -/
def traceOrdersUptoRow : OpenClaim := { program := "ytakmcpadkanggaa", sum := "9a81f13271e265405659b8cfd5a851fd9f54f5c13b2fe0ce0dea01bb69f6c30f", func := "quern/quernlaw14.TraceOrders", spec := "traceOrders", unfollowed := true, recurses := true, apart := false, narrowed := true }
def TraceOrdersUptoSaid : Prop := traceOrdersUptoRow.holds Try.pinned (OpenSpec.upto traceOrdersSpec)

/-- 'quernlaw14.TraceWays', WHERE WHAT IT READS IS OF BULK AT MOST 1048576: true; the input reads as it did. -/
def traceWaysUptoRow : OpenClaim := { program := "ytakmcpadkanggaa", sum := "9a81f13271e265405659b8cfd5a851fd9f54f5c13b2fe0ce0dea01bb69f6c30f", func := "quern/quernlaw14.TraceWays", spec := "traceWays", unfollowed := true, recurses := true, apart := false, narrowed := true }
def TraceWaysUptoSaid : Prop := traceWaysUptoRow.holds Try.pinned (OpenSpec.upto traceWaysSpec)

/-- 'quernlaw14.TraceGuards', WHERE WHAT IT READS IS OF BULK AT MOST 1048576: true; the input reads as it did. -/
def traceGuardsUptoRow : OpenClaim := { program := "ytakmcpadkanggaa", sum := "9a81f13271e265405659b8cfd5a851fd9f54f5c13b2fe0ce0dea01bb69f6c30f", func := "quern/quernlaw14.TraceGuards", spec := "traceGuards", unfollowed := true, recurses := true, apart := false, narrowed := true }
def TraceGuardsUptoSaid : Prop := traceGuardsUptoRow.holds Try.pinned (OpenSpec.upto traceGuardsSpec)

/-- 'quernlaw14.TracePlayed', WHERE WHAT IT READS IS OF BULK AT MOST 1048576: true; the input reads as it did. -/
def tracePlayedUptoRow : OpenClaim := { program := "ytakmcpadkanggaa", sum := "9a81f13271e265405659b8cfd5a851fd9f54f5c13b2fe0ce0dea01bb69f6c30f", func := "quern/quernlaw14.TracePlayed", spec := "tracePlayed", unfollowed := true, recurses := true, apart := false, narrowed := true }
def TracePlayedUptoSaid : Prop := tracePlayedUptoRow.holds Try.pinned (OpenSpec.upto tracePlayedSpec)

/-- 'querntop.WholeOrdered', WHERE WHAT IT READS IS OF BULK AT MOST 1048576: true; the input reads as it did. -/
def wholeOrderedUptoRow : OpenClaim := { program := "ytakmcpadkanggaa", sum := "9a81f13271e265405659b8cfd5a851fd9f54f5c13b2fe0ce0dea01bb69f6c30f", func := "quern/querntop.WholeOrdered", spec := "wholeOrdered", unfollowed := true, recurses := true, apart := false, narrowed := true }
def WholeOrderedUptoSaid : Prop := wholeOrderedUptoRow.holds Try.pinned (OpenSpec.upto wholeOrderedSpec)

/-- 'querntop.WholeSafe', WHERE WHAT IT READS IS OF BULK AT MOST 1048576: true; the input reads as it did. -/
def wholeSafeUptoRow : OpenClaim := { program := "ytakmcpadkanggaa", sum := "9a81f13271e265405659b8cfd5a851fd9f54f5c13b2fe0ce0dea01bb69f6c30f", func := "quern/querntop.WholeSafe", spec := "wholeSafe", unfollowed := true, recurses := true, apart := false, narrowed := true }
def WholeSafeUptoSaid : Prop := wholeSafeUptoRow.holds Try.pinned (OpenSpec.upto wholeSafeSpec)

end Rows
end Go.Proofs.Ytakmcpadkanggaa
