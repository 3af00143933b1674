/-
  No cell of these rows narrows 'for every input' (looked for: loops, veiled, ifaces, maps, wideKeys, modest, calm, conditions, laid).
  DERIVED. THE GIVEN ROWS OF THIS SEAT. 9 by the template 'for every input the law returns true; each argument reads behind the call as it read before'; 0 by the template 'total and deterministic' (their statements: YtainpnjddhabfaaTotals.lean).
  GIVEN WITH THE SEED: the statements are not yours to turn. If you find one false, say at which input.
  Laid BY PROGRAM, IN A SANDBOX (cutbox-rows.mjs): the forced cells as the released guide's own fill.sh prints them over the translation a0cf79bf819b91be… (all of the seat's roots in one cut). By AI agents, Wed Nov 11 2026. No macro, syntax, notation, axiom, sorry.
-/
import Derived.Test.YtainpnjddhabfaaChecked
import GoSem.Claim
import GoSem.ClaimJoined
import GoSem.ClaimMapViews
import Derived.JoinedTies
import Derived.KernelRfl
namespace Go.Proofs.Ytainpnjddhabfaa
/- THE CELL 'sum', in the pinned program and in every row, IS THE sha256 OF THE DUMP (.gsa) THAT YtainpnjddhabfaaProg.lean LOADS. Nothing in Lean hashes anything: it is a label: what it is worth is what the hold of that sum in a sandbox is worth. -/
noncomputable def Try.pinned : Pinned := { name := "ytainpnjddhabfaa", sum := "a0cf79bf819b91be6c52e23250033c88c08d01b76f8dd4cdaf3b3afb02128e0d", checked := Try.checked }
namespace Rows
def none {H : Type} : Left H := { results := [], args := [] }

/-- 'quernlaw03.MixbTables': WHATEVER THE INPUT: true; the input reads as it did. -/
def mixbTablesSpec : ChangeSpec := { name := "mixbTables", fn := fun _ => fun
  | [d] => { results := [.lit (.bool true)], args := [d] }
  | _ => none }
def mixbTablesRow : OpenClaim := { program := "ytainpnjddhabfaa", sum := "a0cf79bf819b91be6c52e23250033c88c08d01b76f8dd4cdaf3b3afb02128e0d", func := "quern/quernlaw03.MixbTables", spec := "mixbTables", apart := false }
def MixbTablesSaid : Prop := mixbTablesRow.holds Try.pinned (OpenSpec.ofChange mixbTablesSpec)

/-- ITS FALSE NEIGHBOUR: 'it returns false'. Refute it at one input. -/
def mixbTablesWrong : ChangeSpec := { name := "mixbTables", fn := fun _ => fun
  | [d] => { results := [.lit (.bool false)], args := [d] }
  | _ => none }
def MixbTablesWrongFalsely : Prop := mixbTablesRow.holds Try.pinned (OpenSpec.ofChange mixbTablesWrong)

/-- 'quernlaw03.MixbOrders': WHATEVER THE INPUT: true; the input reads as it did. -/
def mixbOrdersSpec : ChangeSpec := { name := "mixbOrders", fn := fun _ => fun
  | [d] => { results := [.lit (.bool true)], args := [d] }
  | _ => none }
def mixbOrdersRow : OpenClaim := { program := "ytainpnjddhabfaa", sum := "a0cf79bf819b91be6c52e23250033c88c08d01b76f8dd4cdaf3b3afb02128e0d", func := "quern/quernlaw03.MixbOrders", spec := "mixbOrders", apart := false }
def MixbOrdersSaid : Prop := mixbOrdersRow.holds Try.pinned (OpenSpec.ofChange mixbOrdersSpec)

/-- ITS FALSE NEIGHBOUR: 'it returns false'. Refute it at one input. -/
def mixbOrdersWrong : ChangeSpec := { name := "mixbOrders", fn := fun _ => fun
  | [d] => { results := [.lit (.bool false)], args := [d] }
  | _ => none }
def MixbOrdersWrongFalsely : Prop := mixbOrdersRow.holds Try.pinned (OpenSpec.ofChange mixbOrdersWrong)

/-- 'quernlaw03.MixbInits': WHATEVER THE INPUT: true; the input reads as it did. -/
def mixbInitsSpec : ChangeSpec := { name := "mixbInits", fn := fun _ => fun
  | [d] => { results := [.lit (.bool true)], args := [d] }
  | _ => none }
def mixbInitsRow : OpenClaim := { program := "ytainpnjddhabfaa", sum := "a0cf79bf819b91be6c52e23250033c88c08d01b76f8dd4cdaf3b3afb02128e0d", func := "quern/quernlaw03.MixbInits", spec := "mixbInits", apart := false }
def MixbInitsSaid : Prop := mixbInitsRow.holds Try.pinned (OpenSpec.ofChange mixbInitsSpec)

/-- ITS FALSE NEIGHBOUR: 'it returns false'. Refute it at one input. -/
def mixbInitsWrong : ChangeSpec := { name := "mixbInits", fn := fun _ => fun
  | [d] => { results := [.lit (.bool false)], args := [d] }
  | _ => none }
def MixbInitsWrongFalsely : Prop := mixbInitsRow.holds Try.pinned (OpenSpec.ofChange mixbInitsWrong)

/-- 'quernlaw03.MixbSteps': WHATEVER THE INPUT: true; the input reads as it did. -/
def mixbStepsSpec : ChangeSpec := { name := "mixbSteps", fn := fun _ => fun
  | [d] => { results := [.lit (.bool true)], args := [d] }
  | _ => none }
def mixbStepsRow : OpenClaim := { program := "ytainpnjddhabfaa", sum := "a0cf79bf819b91be6c52e23250033c88c08d01b76f8dd4cdaf3b3afb02128e0d", func := "quern/quernlaw03.MixbSteps", spec := "mixbSteps", apart := false }
def MixbStepsSaid : Prop := mixbStepsRow.holds Try.pinned (OpenSpec.ofChange mixbStepsSpec)

/-- ITS FALSE NEIGHBOUR: 'it returns false'. Refute it at one input. -/
def mixbStepsWrong : ChangeSpec := { name := "mixbSteps", fn := fun _ => fun
  | [d] => { results := [.lit (.bool false)], args := [d] }
  | _ => none }
def MixbStepsWrongFalsely : Prop := mixbStepsRow.holds Try.pinned (OpenSpec.ofChange mixbStepsWrong)

/-- 'quernlaw03.MixbWords': WHATEVER THE INPUT: true; the input reads as it did. -/
def mixbWordsSpec : ChangeSpec := { name := "mixbWords", fn := fun _ => fun
  | [d1, d2] => { results := [.lit (.bool true)], args := [d1, d2] }
  | _ => none }
def mixbWordsRow : OpenClaim := { program := "ytainpnjddhabfaa", sum := "a0cf79bf819b91be6c52e23250033c88c08d01b76f8dd4cdaf3b3afb02128e0d", func := "quern/quernlaw03.MixbWords", spec := "mixbWords", apart := false }
def MixbWordsSaid : Prop := mixbWordsRow.holds Try.pinned (OpenSpec.ofChange mixbWordsSpec)

/-- ITS FALSE NEIGHBOUR: 'it returns false'. Refute it at one input. -/
def mixbWordsWrong : ChangeSpec := { name := "mixbWords", fn := fun _ => fun
  | [d1, d2] => { results := [.lit (.bool false)], args := [d1, d2] }
  | _ => none }
def MixbWordsWrongFalsely : Prop := mixbWordsRow.holds Try.pinned (OpenSpec.ofChange mixbWordsWrong)

/-- 'quernlaw03.MixbBack': WHATEVER THE INPUT: true; the input reads as it did. -/
def mixbBackSpec : ChangeSpec := { name := "mixbBack", fn := fun _ => fun
  | [d1, d2, d3, d4] => { results := [.lit (.bool true)], args := [d1, d2, d3, d4] }
  | _ => none }
def mixbBackRow : OpenClaim := { program := "ytainpnjddhabfaa", sum := "a0cf79bf819b91be6c52e23250033c88c08d01b76f8dd4cdaf3b3afb02128e0d", func := "quern/quernlaw03.MixbBack", spec := "mixbBack", apart := false }
def MixbBackSaid : Prop := mixbBackRow.holds Try.pinned (OpenSpec.ofChange mixbBackSpec)

/-- ITS FALSE NEIGHBOUR: 'it returns false'. Refute it at one input. -/
def mixbBackWrong : ChangeSpec := { name := "mixbBack", fn := fun _ => fun
  | [d1, d2, d3, d4] => { results := [.lit (.bool false)], args := [d1, d2, d3, d4] }
  | _ => none }
def MixbBackWrongFalsely : Prop := mixbBackRow.holds Try.pinned (OpenSpec.ofChange mixbBackWrong)

/-- 'quernlaw03.MixbBlocks': WHATEVER THE INPUT: true; the input reads as it did. -/
def mixbBlocksSpec : ChangeSpec := { name := "mixbBlocks", fn := fun _ => fun
  | [d] => { results := [.lit (.bool true)], args := [d] }
  | _ => none }
def mixbBlocksRow : OpenClaim := { program := "ytainpnjddhabfaa", sum := "a0cf79bf819b91be6c52e23250033c88c08d01b76f8dd4cdaf3b3afb02128e0d", func := "quern/quernlaw03.MixbBlocks", spec := "mixbBlocks", apart := false }
def MixbBlocksSaid : Prop := mixbBlocksRow.holds Try.pinned (OpenSpec.ofChange mixbBlocksSpec)

/-- ITS FALSE NEIGHBOUR: 'it returns false'. Refute it at one input. -/
def mixbBlocksWrong : ChangeSpec := { name := "mixbBlocks", fn := fun _ => fun
  | [d] => { results := [.lit (.bool false)], args := [d] }
  | _ => none }
def MixbBlocksWrongFalsely : Prop := mixbBlocksRow.holds Try.pinned (OpenSpec.ofChange mixbBlocksWrong)

/-- 'quernlaw03.MixbRounds': WHATEVER THE INPUT: true; the input reads as it did. -/
def mixbRoundsSpec : ChangeSpec := { name := "mixbRounds", fn := fun _ => fun
  | [d1, d2, d3] => { results := [.lit (.bool true)], args := [d1, d2, d3] }
  | _ => none }
def mixbRoundsRow : OpenClaim := { program := "ytainpnjddhabfaa", sum := "a0cf79bf819b91be6c52e23250033c88c08d01b76f8dd4cdaf3b3afb02128e0d", func := "quern/quernlaw03.MixbRounds", spec := "mixbRounds", apart := false }
def MixbRoundsSaid : Prop := mixbRoundsRow.holds Try.pinned (OpenSpec.ofChange mixbRoundsSpec)

/-- ITS FALSE NEIGHBOUR: 'it returns false'. Refute it at one input. -/
def mixbRoundsWrong : ChangeSpec := { name := "mixbRounds", fn := fun _ => fun
  | [d1, d2, d3] => { results := [.lit (.bool false)], args := [d1, d2, d3] }
  | _ => none }
def MixbRoundsWrongFalsely : Prop := mixbRoundsRow.holds Try.pinned (OpenSpec.ofChange mixbRoundsWrong)

/-- 'quernlaw03.MixbSpells': WHATEVER THE INPUT: true; the input reads as it did. -/
def mixbSpellsSpec : ChangeSpec := { name := "mixbSpells", fn := fun _ => fun
  | [d] => { results := [.lit (.bool true)], args := [d] }
  | _ => none }
def mixbSpellsRow : OpenClaim := { program := "ytainpnjddhabfaa", sum := "a0cf79bf819b91be6c52e23250033c88c08d01b76f8dd4cdaf3b3afb02128e0d", func := "quern/quernlaw03.MixbSpells", spec := "mixbSpells", apart := false }
def MixbSpellsSaid : Prop := mixbSpellsRow.holds Try.pinned (OpenSpec.ofChange mixbSpellsSpec)

/-- ITS FALSE NEIGHBOUR: 'it returns false'. Refute it at one input. -/
def mixbSpellsWrong : ChangeSpec := { name := "mixbSpells", fn := fun _ => fun
  | [d] => { results := [.lit (.bool false)], args := [d] }
  | _ => none }
def MixbSpellsWrongFalsely : Prop := mixbSpellsRow.holds Try.pinned (OpenSpec.ofChange mixbSpellsWrong)

/- THE SECOND FORM. 'bulk': how many values and letters a reading holds, each counted each time it is reached (what is shared counts as often as it is met; a slice's spare places count too). A statement '..UptoSaid' is the law's where the arguments, and the package variables that the reading takes, are together of bulk at most 1048576: NARROWER than '..Said'. Prove '..Said' where nothing that the law and all that it calls make is longer than what came in: it says more and counts as full. Else prove '..UptoSaid'. A law counts once. -/
mutual
def uptoBulk {H : Type} : DataW H → Nat
  | .lit (.string bytes) => bytes.length + 1
  | .lit _ => 1
  | .nil => 1
  | .ptr d => uptoBulk d + 1
  | .slice elems spare => uptoBulkAll elems + uptoBulkAll spare + 1
  | .agg parts => uptoBulkAll parts + 1
  | .iface _ d => uptoBulk d + 1
  | .map entries => uptoBulkEntries entries + 1
  | .held _ => 1
def uptoBulkAll {H : Type} : List (DataW H) → Nat
  | [] => 0
  | d :: r => uptoBulk d + uptoBulkAll r
def uptoBulkEntries {H : Type} : List (Lit × DataW H) → Nat
  | [] => 0
  | x :: r => uptoBulkEntry x + uptoBulkEntries r
def uptoBulkEntry {H : Type} : Lit × DataW H → Nat
  | (.string bytes, d) => bytes.length + uptoBulk d + 1
  | (_, d) => uptoBulk d + 1
 end
def uptoSmall : (H : Type) → List (DataW H) → Bool := fun _ ds => decide (uptoBulkAll ds ≤ 1048576)
def OpenSpec.upto (s : _root_.Go.ChangeSpec) : _root_.Go.OpenSpec := { _root_.Go.OpenSpec.ofChange s with cond := some uptoSmall }

/-- 'quernlaw03.MixbTables', WHERE WHAT IT READS IS OF BULK AT MOST 1048576: true; the input reads as it did. -/
def mixbTablesUptoRow : OpenClaim := { program := "ytainpnjddhabfaa", sum := "a0cf79bf819b91be6c52e23250033c88c08d01b76f8dd4cdaf3b3afb02128e0d", func := "quern/quernlaw03.MixbTables", spec := "mixbTables", apart := false, narrowed := true }
def MixbTablesUptoSaid : Prop := mixbTablesUptoRow.holds Try.pinned (OpenSpec.upto mixbTablesSpec)

/-- 'quernlaw03.MixbOrders', WHERE WHAT IT READS IS OF BULK AT MOST 1048576: true; the input reads as it did. -/
def mixbOrdersUptoRow : OpenClaim := { program := "ytainpnjddhabfaa", sum := "a0cf79bf819b91be6c52e23250033c88c08d01b76f8dd4cdaf3b3afb02128e0d", func := "quern/quernlaw03.MixbOrders", spec := "mixbOrders", apart := false, narrowed := true }
def MixbOrdersUptoSaid : Prop := mixbOrdersUptoRow.holds Try.pinned (OpenSpec.upto mixbOrdersSpec)

/-- 'quernlaw03.MixbInits', WHERE WHAT IT READS IS OF BULK AT MOST 1048576: true; the input reads as it did. -/
def mixbInitsUptoRow : OpenClaim := { program := "ytainpnjddhabfaa", sum := "a0cf79bf819b91be6c52e23250033c88c08d01b76f8dd4cdaf3b3afb02128e0d", func := "quern/quernlaw03.MixbInits", spec := "mixbInits", apart := false, narrowed := true }
def MixbInitsUptoSaid : Prop := mixbInitsUptoRow.holds Try.pinned (OpenSpec.upto mixbInitsSpec)

/-- 'quernlaw03.MixbSteps', WHERE WHAT IT READS IS OF BULK AT MOST 1048576: true; the input reads as it did. -/
def mixbStepsUptoRow : OpenClaim := { program := "ytainpnjddhabfaa", sum := "a0cf79bf819b91be6c52e23250033c88c08d01b76f8dd4cdaf3b3afb02128e0d", func := "quern/quernlaw03.MixbSteps", spec := "mixbSteps", apart := false, narrowed := true }
def MixbStepsUptoSaid : Prop := mixbStepsUptoRow.holds Try.pinned (OpenSpec.upto mixbStepsSpec)

/-- 'quernlaw03.MixbWords', WHERE WHAT IT READS IS OF BULK AT MOST 1048576: true; the input reads as it did. -/
def mixbWordsUptoRow : OpenClaim := { program := "ytainpnjddhabfaa", sum := "a0cf79bf819b91be6c52e23250033c88c08d01b76f8dd4cdaf3b3afb02128e0d", func := "quern/quernlaw03.MixbWords", spec := "mixbWords", apart := false, narrowed := true }
def MixbWordsUptoSaid : Prop := mixbWordsUptoRow.holds Try.pinned (OpenSpec.upto mixbWordsSpec)

/-- 'quernlaw03.MixbBack', WHERE WHAT IT READS IS OF BULK AT MOST 1048576: true; the input reads as it did. -/
def mixbBackUptoRow : OpenClaim := { program := "ytainpnjddhabfaa", sum := "a0cf79bf819b91be6c52e23250033c88c08d01b76f8dd4cdaf3b3afb02128e0d", func := "quern/quernlaw03.MixbBack", spec := "mixbBack", apart := false, narrowed := true }
def MixbBackUptoSaid : Prop := mixbBackUptoRow.holds Try.pinned (OpenSpec.upto mixbBackSpec)

/-- 'quernlaw03.MixbBlocks', WHERE WHAT IT READS IS OF BULK AT MOST 1048576: true; the input reads as it did. -/
def mixbBlocksUptoRow : OpenClaim := { program := "ytainpnjddhabfaa", sum := "a0cf79bf819b91be6c52e23250033c88c08d01b76f8dd4cdaf3b3afb02128e0d", func := "quern/quernlaw03.MixbBlocks", spec := "mixbBlocks", apart := false, narrowed := true }
def MixbBlocksUptoSaid : Prop := mixbBlocksUptoRow.holds Try.pinned (OpenSpec.upto mixbBlocksSpec)

/-- 'quernlaw03.MixbRounds', WHERE WHAT IT READS IS OF BULK AT MOST 1048576: true; the input reads as it did. -/
def mixbRoundsUptoRow : OpenClaim := { program := "ytainpnjddhabfaa", sum := "a0cf79bf819b91be6c52e23250033c88c08d01b76f8dd4cdaf3b3afb02128e0d", func := "quern/quernlaw03.MixbRounds", spec := "mixbRounds", apart := false, narrowed := true }
def MixbRoundsUptoSaid : Prop := mixbRoundsUptoRow.holds Try.pinned (OpenSpec.upto mixbRoundsSpec)

/-- 'quernlaw03.MixbSpells', WHERE WHAT IT READS IS OF BULK AT MOST 1048576: true; the input reads as it did. -/
def mixbSpellsUptoRow : OpenClaim := { program := "ytainpnjddhabfaa", sum := "a0cf79bf819b91be6c52e23250033c88c08d01b76f8dd4cdaf3b3afb02128e0d", func := "quern/quernlaw03.MixbSpells", spec := "mixbSpells", apart := false, narrowed := true }
def MixbSpellsUptoSaid : Prop := mixbSpellsUptoRow.holds Try.pinned (OpenSpec.upto mixbSpellsSpec)

end Rows
end Go.Proofs.Ytainpnjddhabfaa
