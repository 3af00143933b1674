/-
  No cell of these rows narrows 'for every input' (looked for: loops, veiled, ifaces, maps, wideKeys, modest, calm, conditions, laid).
  DERIVED. THE GIVEN ROWS OF THIS SEAT. 11 by the template 'for every input the law returns true; each argument reads behind the call as it read before'; 0 by the template 'total and deterministic' (their statements: YtanibkocihjgjaaTotals.lean).
  GIVEN WITH THE SEED: the statements are not yours to turn. If you find one false, say at which input.
  Laid BY PROGRAM, IN A SANDBOX (cutbox-rows.mjs): the forced cells as the released guide's own fill.sh prints them over the translation 34d79a111cecff06… (all of the seat's roots in one cut). By AI agents, Wed Nov 11 2026. No macro, syntax, notation, axiom, sorry.
-/
import Derived.Test.YtanibkocihjgjaaChecked
import GoSem.Claim
import GoSem.ClaimJoined
import GoSem.ClaimMapViews
import Derived.JoinedTies
import Derived.KernelRfl
namespace Go.Proofs.Ytanibkocihjgjaa
/- THE CELL 'sum', in the pinned program and in every row, IS THE sha256 OF THE DUMP (.gsa) THAT YtanibkocihjgjaaProg.lean LOADS. Nothing in Lean hashes anything: it is a label: what it is worth is what the hold of that sum in a sandbox is worth. -/
noncomputable def Try.pinned : Pinned := { name := "ytanibkocihjgjaa", sum := "34d79a111cecff06c8e98eb248a9f6ba0acdc73333906f705b6fabfd1f5a62f7", checked := Try.checked }
namespace Rows
def none {H : Type} : Left H := { results := [], args := [] }

/-- 'quernlaw04.MixsGroups': WHATEVER THE INPUT: true; the input reads as it did. -/
def mixsGroupsSpec : ChangeSpec := { name := "mixsGroups", fn := fun _ => fun
  | [d] => { results := [.lit (.bool true)], args := [d] }
  | _ => none }
def mixsGroupsRow : OpenClaim := { program := "ytanibkocihjgjaa", sum := "34d79a111cecff06c8e98eb248a9f6ba0acdc73333906f705b6fabfd1f5a62f7", func := "quern/quernlaw04.MixsGroups", spec := "mixsGroups", apart := false }
def MixsGroupsSaid : Prop := mixsGroupsRow.holds Try.pinned (OpenSpec.ofChange mixsGroupsSpec)

/-- ITS FALSE NEIGHBOUR: 'it returns false'. Refute it at one input. -/
def mixsGroupsWrong : ChangeSpec := { name := "mixsGroups", fn := fun _ => fun
  | [d] => { results := [.lit (.bool false)], args := [d] }
  | _ => none }
def MixsGroupsWrongFalsely : Prop := mixsGroupsRow.holds Try.pinned (OpenSpec.ofChange mixsGroupsWrong)

/-- 'quernlaw04.MixsWords': WHATEVER THE INPUT: true; the input reads as it did. -/
def mixsWordsSpec : ChangeSpec := { name := "mixsWords", fn := fun _ => fun
  | [d1, d2, d3] => { results := [.lit (.bool true)], args := [d1, d2, d3] }
  | _ => none }
def mixsWordsRow : OpenClaim := { program := "ytanibkocihjgjaa", sum := "34d79a111cecff06c8e98eb248a9f6ba0acdc73333906f705b6fabfd1f5a62f7", func := "quern/quernlaw04.MixsWords", spec := "mixsWords", apart := false }
def MixsWordsSaid : Prop := mixsWordsRow.holds Try.pinned (OpenSpec.ofChange mixsWordsSpec)

/-- ITS FALSE NEIGHBOUR: 'it returns false'. Refute it at one input. -/
def mixsWordsWrong : ChangeSpec := { name := "mixsWords", fn := fun _ => fun
  | [d1, d2, d3] => { results := [.lit (.bool false)], args := [d1, d2, d3] }
  | _ => none }
def MixsWordsWrongFalsely : Prop := mixsWordsRow.holds Try.pinned (OpenSpec.ofChange mixsWordsWrong)

/-- 'quernlaw04.MixsStates': WHATEVER THE INPUT: true; the input reads as it did. -/
def mixsStatesSpec : ChangeSpec := { name := "mixsStates", fn := fun _ => fun
  | [d] => { results := [.lit (.bool true)], args := [d] }
  | _ => none }
def mixsStatesRow : OpenClaim := { program := "ytanibkocihjgjaa", sum := "34d79a111cecff06c8e98eb248a9f6ba0acdc73333906f705b6fabfd1f5a62f7", func := "quern/quernlaw04.MixsStates", spec := "mixsStates", apart := false }
def MixsStatesSaid : Prop := mixsStatesRow.holds Try.pinned (OpenSpec.ofChange mixsStatesSpec)

/-- ITS FALSE NEIGHBOUR: 'it returns false'. Refute it at one input. -/
def mixsStatesWrong : ChangeSpec := { name := "mixsStates", fn := fun _ => fun
  | [d] => { results := [.lit (.bool false)], args := [d] }
  | _ => none }
def MixsStatesWrongFalsely : Prop := mixsStatesRow.holds Try.pinned (OpenSpec.ofChange mixsStatesWrong)

/-- 'quernlaw04.MixsUnlike': WHATEVER THE INPUT: true; the input reads as it did. -/
def mixsUnlikeSpec : ChangeSpec := { name := "mixsUnlike", fn := fun _ => fun
  | [d1, d2] => { results := [.lit (.bool true)], args := [d1, d2] }
  | _ => none }
def mixsUnlikeRow : OpenClaim := { program := "ytanibkocihjgjaa", sum := "34d79a111cecff06c8e98eb248a9f6ba0acdc73333906f705b6fabfd1f5a62f7", func := "quern/quernlaw04.MixsUnlike", spec := "mixsUnlike", apart := false }
def MixsUnlikeSaid : Prop := mixsUnlikeRow.holds Try.pinned (OpenSpec.ofChange mixsUnlikeSpec)

/-- ITS FALSE NEIGHBOUR: 'it returns false'. Refute it at one input. -/
def mixsUnlikeWrong : ChangeSpec := { name := "mixsUnlike", fn := fun _ => fun
  | [d1, d2] => { results := [.lit (.bool false)], args := [d1, d2] }
  | _ => none }
def MixsUnlikeWrongFalsely : Prop := mixsUnlikeRow.holds Try.pinned (OpenSpec.ofChange mixsUnlikeWrong)

/-- 'quernlaw04.MixsRounds': WHATEVER THE INPUT: true; the input reads as it did. -/
def mixsRoundsSpec : ChangeSpec := { name := "mixsRounds", fn := fun _ => fun
  | [d] => { results := [.lit (.bool true)], args := [d] }
  | _ => none }
def mixsRoundsRow : OpenClaim := { program := "ytanibkocihjgjaa", sum := "34d79a111cecff06c8e98eb248a9f6ba0acdc73333906f705b6fabfd1f5a62f7", func := "quern/quernlaw04.MixsRounds", spec := "mixsRounds", apart := false }
def MixsRoundsSaid : Prop := mixsRoundsRow.holds Try.pinned (OpenSpec.ofChange mixsRoundsSpec)

/-- ITS FALSE NEIGHBOUR: 'it returns false'. Refute it at one input. -/
def mixsRoundsWrong : ChangeSpec := { name := "mixsRounds", fn := fun _ => fun
  | [d] => { results := [.lit (.bool false)], args := [d] }
  | _ => none }
def MixsRoundsWrongFalsely : Prop := mixsRoundsRow.holds Try.pinned (OpenSpec.ofChange mixsRoundsWrong)

/-- 'quernlaw04.MixsRuns': WHATEVER THE INPUT: true; the input reads as it did. -/
def mixsRunsSpec : ChangeSpec := { name := "mixsRuns", fn := fun _ => fun
  | [d1, d2] => { results := [.lit (.bool true)], args := [d1, d2] }
  | _ => none }
def mixsRunsRow : OpenClaim := { program := "ytanibkocihjgjaa", sum := "34d79a111cecff06c8e98eb248a9f6ba0acdc73333906f705b6fabfd1f5a62f7", func := "quern/quernlaw04.MixsRuns", spec := "mixsRuns", apart := false }
def MixsRunsSaid : Prop := mixsRunsRow.holds Try.pinned (OpenSpec.ofChange mixsRunsSpec)

/-- ITS FALSE NEIGHBOUR: 'it returns false'. Refute it at one input. -/
def mixsRunsWrong : ChangeSpec := { name := "mixsRuns", fn := fun _ => fun
  | [d1, d2] => { results := [.lit (.bool false)], args := [d1, d2] }
  | _ => none }
def MixsRunsWrongFalsely : Prop := mixsRunsRow.holds Try.pinned (OpenSpec.ofChange mixsRunsWrong)

/-- 'quernlaw04.MixsOpens': WHATEVER THE INPUT: true; the input reads as it did. -/
def mixsOpensSpec : ChangeSpec := { name := "mixsOpens", fn := fun _ => fun
  | [d1, d2] => { results := [.lit (.bool true)], args := [d1, d2] }
  | _ => none }
def mixsOpensRow : OpenClaim := { program := "ytanibkocihjgjaa", sum := "34d79a111cecff06c8e98eb248a9f6ba0acdc73333906f705b6fabfd1f5a62f7", func := "quern/quernlaw04.MixsOpens", spec := "mixsOpens", apart := false }
def MixsOpensSaid : Prop := mixsOpensRow.holds Try.pinned (OpenSpec.ofChange mixsOpensSpec)

/-- ITS FALSE NEIGHBOUR: 'it returns false'. Refute it at one input. -/
def mixsOpensWrong : ChangeSpec := { name := "mixsOpens", fn := fun _ => fun
  | [d1, d2] => { results := [.lit (.bool false)], args := [d1, d2] }
  | _ => none }
def MixsOpensWrongFalsely : Prop := mixsOpensRow.holds Try.pinned (OpenSpec.ofChange mixsOpensWrong)

/-- 'quernlaw04.MixsBack': WHATEVER THE INPUT: true; the input reads as it did. -/
def mixsBackSpec : ChangeSpec := { name := "mixsBack", fn := fun _ => fun
  | [d] => { results := [.lit (.bool true)], args := [d] }
  | _ => none }
def mixsBackRow : OpenClaim := { program := "ytanibkocihjgjaa", sum := "34d79a111cecff06c8e98eb248a9f6ba0acdc73333906f705b6fabfd1f5a62f7", func := "quern/quernlaw04.MixsBack", spec := "mixsBack", apart := false }
def MixsBackSaid : Prop := mixsBackRow.holds Try.pinned (OpenSpec.ofChange mixsBackSpec)

/-- ITS FALSE NEIGHBOUR: 'it returns false'. Refute it at one input. -/
def mixsBackWrong : ChangeSpec := { name := "mixsBack", fn := fun _ => fun
  | [d] => { results := [.lit (.bool false)], args := [d] }
  | _ => none }
def MixsBackWrongFalsely : Prop := mixsBackRow.holds Try.pinned (OpenSpec.ofChange mixsBackWrong)

/-- 'quernlaw04.MixsUndone': WHATEVER THE INPUT: true; the input reads as it did. -/
def mixsUndoneSpec : ChangeSpec := { name := "mixsUndone", fn := fun _ => fun
  | [d] => { results := [.lit (.bool true)], args := [d] }
  | _ => none }
def mixsUndoneRow : OpenClaim := { program := "ytanibkocihjgjaa", sum := "34d79a111cecff06c8e98eb248a9f6ba0acdc73333906f705b6fabfd1f5a62f7", func := "quern/quernlaw04.MixsUndone", spec := "mixsUndone", apart := false }
def MixsUndoneSaid : Prop := mixsUndoneRow.holds Try.pinned (OpenSpec.ofChange mixsUndoneSpec)

/-- ITS FALSE NEIGHBOUR: 'it returns false'. Refute it at one input. -/
def mixsUndoneWrong : ChangeSpec := { name := "mixsUndone", fn := fun _ => fun
  | [d] => { results := [.lit (.bool false)], args := [d] }
  | _ => none }
def MixsUndoneWrongFalsely : Prop := mixsUndoneRow.holds Try.pinned (OpenSpec.ofChange mixsUndoneWrong)

/-- 'quernlaw04.MixsChains': WHATEVER THE INPUT: true; the input reads as it did. -/
def mixsChainsSpec : ChangeSpec := { name := "mixsChains", fn := fun _ => fun
  | [d1, d2, d3] => { results := [.lit (.bool true)], args := [d1, d2, d3] }
  | _ => none }
def mixsChainsRow : OpenClaim := { program := "ytanibkocihjgjaa", sum := "34d79a111cecff06c8e98eb248a9f6ba0acdc73333906f705b6fabfd1f5a62f7", func := "quern/quernlaw04.MixsChains", spec := "mixsChains", apart := false }
def MixsChainsSaid : Prop := mixsChainsRow.holds Try.pinned (OpenSpec.ofChange mixsChainsSpec)

/-- ITS FALSE NEIGHBOUR: 'it returns false'. Refute it at one input. -/
def mixsChainsWrong : ChangeSpec := { name := "mixsChains", fn := fun _ => fun
  | [d1, d2, d3] => { results := [.lit (.bool false)], args := [d1, d2, d3] }
  | _ => none }
def MixsChainsWrongFalsely : Prop := mixsChainsRow.holds Try.pinned (OpenSpec.ofChange mixsChainsWrong)

/-- 'quernlaw04.MixsParts': WHATEVER THE INPUT: true; the input reads as it did. -/
def mixsPartsSpec : ChangeSpec := { name := "mixsParts", fn := fun _ => fun
  | [d1, d2, d3] => { results := [.lit (.bool true)], args := [d1, d2, d3] }
  | _ => none }
def mixsPartsRow : OpenClaim := { program := "ytanibkocihjgjaa", sum := "34d79a111cecff06c8e98eb248a9f6ba0acdc73333906f705b6fabfd1f5a62f7", func := "quern/quernlaw04.MixsParts", spec := "mixsParts", apart := false }
def MixsPartsSaid : Prop := mixsPartsRow.holds Try.pinned (OpenSpec.ofChange mixsPartsSpec)

/-- ITS FALSE NEIGHBOUR: 'it returns false'. Refute it at one input. -/
def mixsPartsWrong : ChangeSpec := { name := "mixsParts", fn := fun _ => fun
  | [d1, d2, d3] => { results := [.lit (.bool false)], args := [d1, d2, d3] }
  | _ => none }
def MixsPartsWrongFalsely : Prop := mixsPartsRow.holds Try.pinned (OpenSpec.ofChange mixsPartsWrong)

/- THE SECOND FORM. 'bulk': how many values and letters a reading holds, each counted each time it is reached (what is shared counts as often as it is met; a slice's spare places count too). A statement '..UptoSaid' is the law's where the arguments, and the package variables that the reading takes, are together of bulk at most 1048576: NARROWER than '..Said'. Prove '..Said' where nothing that the law and all that it calls make is longer than what came in: it says more and counts as full. Else prove '..UptoSaid'. A law counts once. -/
mutual
def uptoBulk {H : Type} : DataW H → Nat
  | .lit (.string bytes) => bytes.length + 1
  | .lit _ => 1
  | .nil => 1
  | .ptr d => uptoBulk d + 1
  | .slice elems spare => uptoBulkAll elems + uptoBulkAll spare + 1
  | .agg parts => uptoBulkAll parts + 1
  | .iface _ d => uptoBulk d + 1
  | .map entries => uptoBulkEntries entries + 1
  | .held _ => 1
def uptoBulkAll {H : Type} : List (DataW H) → Nat
  | [] => 0
  | d :: r => uptoBulk d + uptoBulkAll r
def uptoBulkEntries {H : Type} : List (Lit × DataW H) → Nat
  | [] => 0
  | x :: r => uptoBulkEntry x + uptoBulkEntries r
def uptoBulkEntry {H : Type} : Lit × DataW H → Nat
  | (.string bytes, d) => bytes.length + uptoBulk d + 1
  | (_, d) => uptoBulk d + 1
 end
def uptoSmall : (H : Type) → List (DataW H) → Bool := fun _ ds => decide (uptoBulkAll ds ≤ 1048576)
def OpenSpec.upto (s : _root_.Go.ChangeSpec) : _root_.Go.OpenSpec := { _root_.Go.OpenSpec.ofChange s with cond := some uptoSmall }

/-- 'quernlaw04.MixsGroups', WHERE WHAT IT READS IS OF BULK AT MOST 1048576: true; the input reads as it did. -/
def mixsGroupsUptoRow : OpenClaim := { program := "ytanibkocihjgjaa", sum := "34d79a111cecff06c8e98eb248a9f6ba0acdc73333906f705b6fabfd1f5a62f7", func := "quern/quernlaw04.MixsGroups", spec := "mixsGroups", apart := false, narrowed := true }
def MixsGroupsUptoSaid : Prop := mixsGroupsUptoRow.holds Try.pinned (OpenSpec.upto mixsGroupsSpec)

/-- 'quernlaw04.MixsWords', WHERE WHAT IT READS IS OF BULK AT MOST 1048576: true; the input reads as it did. -/
def mixsWordsUptoRow : OpenClaim := { program := "ytanibkocihjgjaa", sum := "34d79a111cecff06c8e98eb248a9f6ba0acdc73333906f705b6fabfd1f5a62f7", func := "quern/quernlaw04.MixsWords", spec := "mixsWords", apart := false, narrowed := true }
def MixsWordsUptoSaid : Prop := mixsWordsUptoRow.holds Try.pinned (OpenSpec.upto mixsWordsSpec)

/-- 'quernlaw04.MixsStates', WHERE WHAT IT READS IS OF BULK AT MOST 1048576: true; the input reads as it did. -/
def mixsStatesUptoRow : OpenClaim := { program := "ytanibkocihjgjaa", sum := "34d79a111cecff06c8e98eb248a9f6ba0acdc73333906f705b6fabfd1f5a62f7", func := "quern/quernlaw04.MixsStates", spec := "mixsStates", apart := false, narrowed := true }
def MixsStatesUptoSaid : Prop := mixsStatesUptoRow.holds Try.pinned (OpenSpec.upto mixsStatesSpec)

/-- 'quernlaw04.MixsUnlike', WHERE WHAT IT READS IS OF BULK AT MOST 1048576: true; the input reads as it did. -/
def mixsUnlikeUptoRow : OpenClaim := { program := "ytanibkocihjgjaa", sum := "34d79a111cecff06c8e98eb248a9f6ba0acdc73333906f705b6fabfd1f5a62f7", func := "quern/quernlaw04.MixsUnlike", spec := "mixsUnlike", apart := false, narrowed := true }
def MixsUnlikeUptoSaid : Prop := mixsUnlikeUptoRow.holds Try.pinned (OpenSpec.upto mixsUnlikeSpec)

/-- 'quernlaw04.MixsRounds', WHERE WHAT IT READS IS OF BULK AT MOST 1048576: true; the input reads as it did. -/
def mixsRoundsUptoRow : OpenClaim := { program := "ytanibkocihjgjaa", sum := "34d79a111cecff06c8e98eb248a9f6ba0acdc73333906f705b6fabfd1f5a62f7", func := "quern/quernlaw04.MixsRounds", spec := "mixsRounds", apart := false, narrowed := true }
def MixsRoundsUptoSaid : Prop := mixsRoundsUptoRow.holds Try.pinned (OpenSpec.upto mixsRoundsSpec)

/-- 'quernlaw04.MixsRuns', WHERE WHAT IT READS IS OF BULK AT MOST 1048576: true; the input reads as it did. -/
def mixsRunsUptoRow : OpenClaim := { program := "ytanibkocihjgjaa", sum := "34d79a111cecff06c8e98eb248a9f6ba0acdc73333906f705b6fabfd1f5a62f7", func := "quern/quernlaw04.MixsRuns", spec := "mixsRuns", apart := false, narrowed := true }
def MixsRunsUptoSaid : Prop := mixsRunsUptoRow.holds Try.pinned (OpenSpec.upto mixsRunsSpec)

/-- 'quernlaw04.MixsOpens', WHERE WHAT IT READS IS OF BULK AT MOST 1048576: true; the input reads as it did. -/
def mixsOpensUptoRow : OpenClaim := { program := "ytanibkocihjgjaa", sum := "34d79a111cecff06c8e98eb248a9f6ba0acdc73333906f705b6fabfd1f5a62f7", func := "quern/quernlaw04.MixsOpens", spec := "mixsOpens", apart := false, narrowed := true }
def MixsOpensUptoSaid : Prop := mixsOpensUptoRow.holds Try.pinned (OpenSpec.upto mixsOpensSpec)

/-- 'quernlaw04.MixsBack', WHERE WHAT IT READS IS OF BULK AT MOST 1048576: true; the input reads as it did. -/
def mixsBackUptoRow : OpenClaim := { program := "ytanibkocihjgjaa", sum := "34d79a111cecff06c8e98eb248a9f6ba0acdc73333906f705b6fabfd1f5a62f7", func := "quern/quernlaw04.MixsBack", spec := "mixsBack", apart := false, narrowed := true }
def MixsBackUptoSaid : Prop := mixsBackUptoRow.holds Try.pinned (OpenSpec.upto mixsBackSpec)

/-- 'quernlaw04.MixsUndone', WHERE WHAT IT READS IS OF BULK AT MOST 1048576: true; the input reads as it did. -/
def mixsUndoneUptoRow : OpenClaim := { program := "ytanibkocihjgjaa", sum := "34d79a111cecff06c8e98eb248a9f6ba0acdc73333906f705b6fabfd1f5a62f7", func := "quern/quernlaw04.MixsUndone", spec := "mixsUndone", apart := false, narrowed := true }
def MixsUndoneUptoSaid : Prop := mixsUndoneUptoRow.holds Try.pinned (OpenSpec.upto mixsUndoneSpec)

/-- 'quernlaw04.MixsChains', WHERE WHAT IT READS IS OF BULK AT MOST 1048576: true; the input reads as it did. -/
def mixsChainsUptoRow : OpenClaim := { program := "ytanibkocihjgjaa", sum := "34d79a111cecff06c8e98eb248a9f6ba0acdc73333906f705b6fabfd1f5a62f7", func := "quern/quernlaw04.MixsChains", spec := "mixsChains", apart := false, narrowed := true }
def MixsChainsUptoSaid : Prop := mixsChainsUptoRow.holds Try.pinned (OpenSpec.upto mixsChainsSpec)

/-- 'quernlaw04.MixsParts', WHERE WHAT IT READS IS OF BULK AT MOST 1048576: true; the input reads as it did. -/
def mixsPartsUptoRow : OpenClaim := { program := "ytanibkocihjgjaa", sum := "34d79a111cecff06c8e98eb248a9f6ba0acdc73333906f705b6fabfd1f5a62f7", func := "quern/quernlaw04.MixsParts", spec := "mixsParts", apart := false, narrowed := true }
def MixsPartsUptoSaid : Prop := mixsPartsUptoRow.holds Try.pinned (OpenSpec.upto mixsPartsSpec)

end Rows
end Go.Proofs.Ytanibkocihjgjaa
