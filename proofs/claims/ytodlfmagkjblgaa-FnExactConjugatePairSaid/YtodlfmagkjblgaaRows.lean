/-
  No cell of these rows narrows 'for every input' (looked for: loops, veiled, ifaces, maps, wideKeys, modest, calm, conditions, laid).
  DERIVED. THE GIVEN ROWS OF THIS SEAT. 11 by the template 'for every input the law returns true; each argument reads behind the call as it read before'; 0 by the template 'total and deterministic' (their statements: YtodlfmagkjblgaaTotals.lean).
  GIVEN WITH THE SEED: the statements are not yours to turn. If you find one false, say at which input.
  Laid BY PROGRAM, IN A SANDBOX (cutbox-rows.mjs): the forced cells as the released guide's own fill.sh prints them over the translation 2e5a1bc82f509f8e… (all of the seat's roots in one cut). By AI agents, Wed Nov 11 2026. No macro, syntax, notation, axiom, sorry.
-/
import Derived.Test.YtodlfmagkjblgaaChecked
import GoSem.Claim
import GoSem.ClaimJoined
import GoSem.ClaimMapViews
import Derived.JoinedTies
import Derived.KernelRfl
namespace Go.Proofs.Ytodlfmagkjblgaa
/- THE CELL 'sum', in the pinned program and in every row, IS THE sha256 OF THE DUMP (.gsa) THAT YtodlfmagkjblgaaProg.lean LOADS. Nothing in Lean hashes anything: it is a label: what it is worth is what the hold of that sum in a sandbox is worth. -/
noncomputable def Try.pinned : Pinned := { name := "ytodlfmagkjblgaa", sum := "2e5a1bc82f509f8e03bf78ec86dfe6c20776368d45a1d08edc09262a6effc932", checked := Try.checked }
namespace Rows
def none {H : Type} : Left H := { results := [], args := [] }

/-- 'laws.FnExactIsSymplecticPair': WHATEVER THE INPUT: true; the input reads as it did. -/
def fnExactIsSymplecticPairSpec : ChangeSpec := { name := "fnExactIsSymplecticPair", fn := fun _ => fun
  | [d] => { results := [.lit (.bool true)], args := [d] }
  | _ => none }
def fnExactIsSymplecticPairRow : OpenClaim := { program := "ytodlfmagkjblgaa", sum := "2e5a1bc82f509f8e03bf78ec86dfe6c20776368d45a1d08edc09262a6effc932", func := "loop.example/g03110/laws.FnExactIsSymplecticPair", spec := "fnExactIsSymplecticPair", apart := false }
def FnExactIsSymplecticPairSaid : Prop := fnExactIsSymplecticPairRow.holds Try.pinned (OpenSpec.ofChange fnExactIsSymplecticPairSpec)

/-- ITS FALSE NEIGHBOUR: 'it returns false'. Refute it at one input. -/
def fnExactIsSymplecticPairWrong : ChangeSpec := { name := "fnExactIsSymplecticPair", fn := fun _ => fun
  | [d] => { results := [.lit (.bool false)], args := [d] }
  | _ => none }
def FnExactIsSymplecticPairWrongFalsely : Prop := fnExactIsSymplecticPairRow.holds Try.pinned (OpenSpec.ofChange fnExactIsSymplecticPairWrong)

/-- 'laws.FnExactMulWords': WHATEVER THE INPUT: true; the input reads as it did. -/
def fnExactMulWordsSpec : ChangeSpec := { name := "fnExactMulWords", fn := fun _ => fun
  | [d1, d2] => { results := [.lit (.bool true)], args := [d1, d2] }
  | _ => none }
def fnExactMulWordsRow : OpenClaim := { program := "ytodlfmagkjblgaa", sum := "2e5a1bc82f509f8e03bf78ec86dfe6c20776368d45a1d08edc09262a6effc932", func := "loop.example/g03110/laws.FnExactMulWords", spec := "fnExactMulWords", apart := false }
def FnExactMulWordsSaid : Prop := fnExactMulWordsRow.holds Try.pinned (OpenSpec.ofChange fnExactMulWordsSpec)

/-- ITS FALSE NEIGHBOUR: 'it returns false'. Refute it at one input. -/
def fnExactMulWordsWrong : ChangeSpec := { name := "fnExactMulWords", fn := fun _ => fun
  | [d1, d2] => { results := [.lit (.bool false)], args := [d1, d2] }
  | _ => none }
def FnExactMulWordsWrongFalsely : Prop := fnExactMulWordsRow.holds Try.pinned (OpenSpec.ofChange fnExactMulWordsWrong)

/-- 'laws.FnExactIsLieWords': WHATEVER THE INPUT: true; the input reads as it did. -/
def fnExactIsLieWordsSpec : ChangeSpec := { name := "fnExactIsLieWords", fn := fun _ => fun
  | [d] => { results := [.lit (.bool true)], args := [d] }
  | _ => none }
def fnExactIsLieWordsRow : OpenClaim := { program := "ytodlfmagkjblgaa", sum := "2e5a1bc82f509f8e03bf78ec86dfe6c20776368d45a1d08edc09262a6effc932", func := "loop.example/g03110/laws.FnExactIsLieWords", spec := "fnExactIsLieWords", apart := false }
def FnExactIsLieWordsSaid : Prop := fnExactIsLieWordsRow.holds Try.pinned (OpenSpec.ofChange fnExactIsLieWordsSpec)

/-- ITS FALSE NEIGHBOUR: 'it returns false'. Refute it at one input. -/
def fnExactIsLieWordsWrong : ChangeSpec := { name := "fnExactIsLieWords", fn := fun _ => fun
  | [d] => { results := [.lit (.bool false)], args := [d] }
  | _ => none }
def FnExactIsLieWordsWrongFalsely : Prop := fnExactIsLieWordsRow.holds Try.pinned (OpenSpec.ofChange fnExactIsLieWordsWrong)

/-- 'laws.FnWordRing': WHATEVER THE INPUT: true; the input reads as it did. -/
def fnWordRingSpec : ChangeSpec := { name := "fnWordRing", fn := fun _ => fun
  | [d] => { results := [.lit (.bool true)], args := [d] }
  | _ => none }
def fnWordRingRow : OpenClaim := { program := "ytodlfmagkjblgaa", sum := "2e5a1bc82f509f8e03bf78ec86dfe6c20776368d45a1d08edc09262a6effc932", func := "loop.example/g03110/laws.FnWordRing", spec := "fnWordRing", apart := false }
def FnWordRingSaid : Prop := fnWordRingRow.holds Try.pinned (OpenSpec.ofChange fnWordRingSpec)

/-- ITS FALSE NEIGHBOUR: 'it returns false'. Refute it at one input. -/
def fnWordRingWrong : ChangeSpec := { name := "fnWordRing", fn := fun _ => fun
  | [d] => { results := [.lit (.bool false)], args := [d] }
  | _ => none }
def FnWordRingWrongFalsely : Prop := fnWordRingRow.holds Try.pinned (OpenSpec.ofChange fnWordRingWrong)

/-- 'laws.FnExactConjugatePair': WHATEVER THE INPUT: true; the input reads as it did. -/
def fnExactConjugatePairSpec : ChangeSpec := { name := "fnExactConjugatePair", fn := fun _ => fun
  | [d] => { results := [.lit (.bool true)], args := [d] }
  | _ => none }
def fnExactConjugatePairRow : OpenClaim := { program := "ytodlfmagkjblgaa", sum := "2e5a1bc82f509f8e03bf78ec86dfe6c20776368d45a1d08edc09262a6effc932", func := "loop.example/g03110/laws.FnExactConjugatePair", spec := "fnExactConjugatePair", apart := false }
def FnExactConjugatePairSaid : Prop := fnExactConjugatePairRow.holds Try.pinned (OpenSpec.ofChange fnExactConjugatePairSpec)

/-- ITS FALSE NEIGHBOUR: 'it returns false'. Refute it at one input. -/
def fnExactConjugatePairWrong : ChangeSpec := { name := "fnExactConjugatePair", fn := fun _ => fun
  | [d] => { results := [.lit (.bool false)], args := [d] }
  | _ => none }
def FnExactConjugatePairWrongFalsely : Prop := fnExactConjugatePairRow.holds Try.pinned (OpenSpec.ofChange fnExactConjugatePairWrong)

/-- 'laws.FnLieWords': WHATEVER THE INPUT: true; the input reads as it did. -/
def fnLieWordsSpec : ChangeSpec := { name := "fnLieWords", fn := fun _ => fun
  | [d] => { results := [.lit (.bool true)], args := [d] }
  | _ => none }
def fnLieWordsRow : OpenClaim := { program := "ytodlfmagkjblgaa", sum := "2e5a1bc82f509f8e03bf78ec86dfe6c20776368d45a1d08edc09262a6effc932", func := "loop.example/g03110/laws.FnLieWords", spec := "fnLieWords", apart := false }
def FnLieWordsSaid : Prop := fnLieWordsRow.holds Try.pinned (OpenSpec.ofChange fnLieWordsSpec)

/-- ITS FALSE NEIGHBOUR: 'it returns false'. Refute it at one input. -/
def fnLieWordsWrong : ChangeSpec := { name := "fnLieWords", fn := fun _ => fun
  | [d] => { results := [.lit (.bool false)], args := [d] }
  | _ => none }
def FnLieWordsWrongFalsely : Prop := fnLieWordsRow.holds Try.pinned (OpenSpec.ofChange fnLieWordsWrong)

/-- 'laws.FnSchemes': WHATEVER THE INPUT: true; the input reads as it did. -/
def fnSchemesSpec : ChangeSpec := { name := "fnSchemes", fn := fun _ => fun
  | [d] => { results := [.lit (.bool true)], args := [d] }
  | _ => none }
def fnSchemesRow : OpenClaim := { program := "ytodlfmagkjblgaa", sum := "2e5a1bc82f509f8e03bf78ec86dfe6c20776368d45a1d08edc09262a6effc932", func := "loop.example/g03110/laws.FnSchemes", spec := "fnSchemes", apart := false }
def FnSchemesSaid : Prop := fnSchemesRow.holds Try.pinned (OpenSpec.ofChange fnSchemesSpec)

/-- ITS FALSE NEIGHBOUR: 'it returns false'. Refute it at one input. -/
def fnSchemesWrong : ChangeSpec := { name := "fnSchemes", fn := fun _ => fun
  | [d] => { results := [.lit (.bool false)], args := [d] }
  | _ => none }
def FnSchemesWrongFalsely : Prop := fnSchemesRow.holds Try.pinned (OpenSpec.ofChange fnSchemesWrong)

/-- 'laws.FnExactLogWords': WHATEVER THE INPUT: true; the input reads as it did. -/
def fnExactLogWordsSpec : ChangeSpec := { name := "fnExactLogWords", fn := fun _ => fun
  | [d] => { results := [.lit (.bool true)], args := [d] }
  | _ => none }
def fnExactLogWordsRow : OpenClaim := { program := "ytodlfmagkjblgaa", sum := "2e5a1bc82f509f8e03bf78ec86dfe6c20776368d45a1d08edc09262a6effc932", func := "loop.example/g03110/laws.FnExactLogWords", spec := "fnExactLogWords", apart := false }
def FnExactLogWordsSaid : Prop := fnExactLogWordsRow.holds Try.pinned (OpenSpec.ofChange fnExactLogWordsSpec)

/-- ITS FALSE NEIGHBOUR: 'it returns false'. Refute it at one input. -/
def fnExactLogWordsWrong : ChangeSpec := { name := "fnExactLogWords", fn := fun _ => fun
  | [d] => { results := [.lit (.bool false)], args := [d] }
  | _ => none }
def FnExactLogWordsWrongFalsely : Prop := fnExactLogWordsRow.holds Try.pinned (OpenSpec.ofChange fnExactLogWordsWrong)

/-- 'laws.FnExactExpWords': WHATEVER THE INPUT: true; the input reads as it did. -/
def fnExactExpWordsSpec : ChangeSpec := { name := "fnExactExpWords", fn := fun _ => fun
  | [d] => { results := [.lit (.bool true)], args := [d] }
  | _ => none }
def fnExactExpWordsRow : OpenClaim := { program := "ytodlfmagkjblgaa", sum := "2e5a1bc82f509f8e03bf78ec86dfe6c20776368d45a1d08edc09262a6effc932", func := "loop.example/g03110/laws.FnExactExpWords", spec := "fnExactExpWords", apart := false }
def FnExactExpWordsSaid : Prop := fnExactExpWordsRow.holds Try.pinned (OpenSpec.ofChange fnExactExpWordsSpec)

/-- ITS FALSE NEIGHBOUR: 'it returns false'. Refute it at one input. -/
def fnExactExpWordsWrong : ChangeSpec := { name := "fnExactExpWords", fn := fun _ => fun
  | [d] => { results := [.lit (.bool false)], args := [d] }
  | _ => none }
def FnExactExpWordsWrongFalsely : Prop := fnExactExpWordsRow.holds Try.pinned (OpenSpec.ofChange fnExactExpWordsWrong)

/-- 'laws.FnExactOrderOfScheme': WHATEVER THE INPUT: true; the input reads as it did. -/
def fnExactOrderOfSchemeSpec : ChangeSpec := { name := "fnExactOrderOfScheme", fn := fun _ => fun
  | [d] => { results := [.lit (.bool true)], args := [d] }
  | _ => none }
def fnExactOrderOfSchemeRow : OpenClaim := { program := "ytodlfmagkjblgaa", sum := "2e5a1bc82f509f8e03bf78ec86dfe6c20776368d45a1d08edc09262a6effc932", func := "loop.example/g03110/laws.FnExactOrderOfScheme", spec := "fnExactOrderOfScheme", apart := false }
def FnExactOrderOfSchemeSaid : Prop := fnExactOrderOfSchemeRow.holds Try.pinned (OpenSpec.ofChange fnExactOrderOfSchemeSpec)

/-- ITS FALSE NEIGHBOUR: 'it returns false'. Refute it at one input. -/
def fnExactOrderOfSchemeWrong : ChangeSpec := { name := "fnExactOrderOfScheme", fn := fun _ => fun
  | [d] => { results := [.lit (.bool false)], args := [d] }
  | _ => none }
def FnExactOrderOfSchemeWrongFalsely : Prop := fnExactOrderOfSchemeRow.holds Try.pinned (OpenSpec.ofChange fnExactOrderOfSchemeWrong)

/-- 'laws.FnExactSchemeWords': WHATEVER THE INPUT: true; the input reads as it did. -/
def fnExactSchemeWordsSpec : ChangeSpec := { name := "fnExactSchemeWords", fn := fun _ => fun
  | [d1, d2] => { results := [.lit (.bool true)], args := [d1, d2] }
  | _ => none }
def fnExactSchemeWordsRow : OpenClaim := { program := "ytodlfmagkjblgaa", sum := "2e5a1bc82f509f8e03bf78ec86dfe6c20776368d45a1d08edc09262a6effc932", func := "loop.example/g03110/laws.FnExactSchemeWords", spec := "fnExactSchemeWords", apart := false }
def FnExactSchemeWordsSaid : Prop := fnExactSchemeWordsRow.holds Try.pinned (OpenSpec.ofChange fnExactSchemeWordsSpec)

/-- ITS FALSE NEIGHBOUR: 'it returns false'. Refute it at one input. -/
def fnExactSchemeWordsWrong : ChangeSpec := { name := "fnExactSchemeWords", fn := fun _ => fun
  | [d1, d2] => { results := [.lit (.bool false)], args := [d1, d2] }
  | _ => none }
def FnExactSchemeWordsWrongFalsely : Prop := fnExactSchemeWordsRow.holds Try.pinned (OpenSpec.ofChange fnExactSchemeWordsWrong)

/- THE SECOND FORM. 'bulk': how many values and letters a reading holds, each counted each time it is reached (what is shared counts as often as it is met; a slice's spare places count too). A statement '..UptoSaid' is the law's where the arguments, and the package variables that the reading takes, are together of bulk at most 1048576: NARROWER than '..Said'. Prove '..Said' where nothing that the law and all that it calls make is longer than what came in: it says more and counts as full. Else prove '..UptoSaid'. A law counts once. -/
mutual
def uptoBulk {H : Type} : DataW H → Nat
  | .lit (.string bytes) => bytes.length + 1
  | .lit _ => 1
  | .nil => 1
  | .ptr d => uptoBulk d + 1
  | .slice elems spare => uptoBulkAll elems + uptoBulkAll spare + 1
  | .agg parts => uptoBulkAll parts + 1
  | .iface _ d => uptoBulk d + 1
  | .map entries => uptoBulkEntries entries + 1
  | .held _ => 1
def uptoBulkAll {H : Type} : List (DataW H) → Nat
  | [] => 0
  | d :: r => uptoBulk d + uptoBulkAll r
def uptoBulkEntries {H : Type} : List (Lit × DataW H) → Nat
  | [] => 0
  | x :: r => uptoBulkEntry x + uptoBulkEntries r
def uptoBulkEntry {H : Type} : Lit × DataW H → Nat
  | (.string bytes, d) => bytes.length + uptoBulk d + 1
  | (_, d) => uptoBulk d + 1
 end
def uptoSmall : (H : Type) → List (DataW H) → Bool := fun _ ds => decide (uptoBulkAll ds ≤ 1048576)
def OpenSpec.upto (s : _root_.Go.ChangeSpec) : _root_.Go.OpenSpec := { _root_.Go.OpenSpec.ofChange s with cond := some uptoSmall }

/-- 'laws.FnExactIsSymplecticPair', WHERE WHAT IT READS IS OF BULK AT MOST 1048576: true; the input reads as it did. -/
def fnExactIsSymplecticPairUptoRow : OpenClaim := { program := "ytodlfmagkjblgaa", sum := "2e5a1bc82f509f8e03bf78ec86dfe6c20776368d45a1d08edc09262a6effc932", func := "loop.example/g03110/laws.FnExactIsSymplecticPair", spec := "fnExactIsSymplecticPair", apart := false, narrowed := true }
def FnExactIsSymplecticPairUptoSaid : Prop := fnExactIsSymplecticPairUptoRow.holds Try.pinned (OpenSpec.upto fnExactIsSymplecticPairSpec)

/-- 'laws.FnExactMulWords', WHERE WHAT IT READS IS OF BULK AT MOST 1048576: true; the input reads as it did. -/
def fnExactMulWordsUptoRow : OpenClaim := { program := "ytodlfmagkjblgaa", sum := "2e5a1bc82f509f8e03bf78ec86dfe6c20776368d45a1d08edc09262a6effc932", func := "loop.example/g03110/laws.FnExactMulWords", spec := "fnExactMulWords", apart := false, narrowed := true }
def FnExactMulWordsUptoSaid : Prop := fnExactMulWordsUptoRow.holds Try.pinned (OpenSpec.upto fnExactMulWordsSpec)

/-- 'laws.FnExactIsLieWords', WHERE WHAT IT READS IS OF BULK AT MOST 1048576: true; the input reads as it did. -/
def fnExactIsLieWordsUptoRow : OpenClaim := { program := "ytodlfmagkjblgaa", sum := "2e5a1bc82f509f8e03bf78ec86dfe6c20776368d45a1d08edc09262a6effc932", func := "loop.example/g03110/laws.FnExactIsLieWords", spec := "fnExactIsLieWords", apart := false, narrowed := true }
def FnExactIsLieWordsUptoSaid : Prop := fnExactIsLieWordsUptoRow.holds Try.pinned (OpenSpec.upto fnExactIsLieWordsSpec)

/-- 'laws.FnWordRing', WHERE WHAT IT READS IS OF BULK AT MOST 1048576: true; the input reads as it did. -/
def fnWordRingUptoRow : OpenClaim := { program := "ytodlfmagkjblgaa", sum := "2e5a1bc82f509f8e03bf78ec86dfe6c20776368d45a1d08edc09262a6effc932", func := "loop.example/g03110/laws.FnWordRing", spec := "fnWordRing", apart := false, narrowed := true }
def FnWordRingUptoSaid : Prop := fnWordRingUptoRow.holds Try.pinned (OpenSpec.upto fnWordRingSpec)

/-- 'laws.FnExactConjugatePair', WHERE WHAT IT READS IS OF BULK AT MOST 1048576: true; the input reads as it did. -/
def fnExactConjugatePairUptoRow : OpenClaim := { program := "ytodlfmagkjblgaa", sum := "2e5a1bc82f509f8e03bf78ec86dfe6c20776368d45a1d08edc09262a6effc932", func := "loop.example/g03110/laws.FnExactConjugatePair", spec := "fnExactConjugatePair", apart := false, narrowed := true }
def FnExactConjugatePairUptoSaid : Prop := fnExactConjugatePairUptoRow.holds Try.pinned (OpenSpec.upto fnExactConjugatePairSpec)

/-- 'laws.FnLieWords', WHERE WHAT IT READS IS OF BULK AT MOST 1048576: true; the input reads as it did. -/
def fnLieWordsUptoRow : OpenClaim := { program := "ytodlfmagkjblgaa", sum := "2e5a1bc82f509f8e03bf78ec86dfe6c20776368d45a1d08edc09262a6effc932", func := "loop.example/g03110/laws.FnLieWords", spec := "fnLieWords", apart := false, narrowed := true }
def FnLieWordsUptoSaid : Prop := fnLieWordsUptoRow.holds Try.pinned (OpenSpec.upto fnLieWordsSpec)

/-- 'laws.FnSchemes', WHERE WHAT IT READS IS OF BULK AT MOST 1048576: true; the input reads as it did. -/
def fnSchemesUptoRow : OpenClaim := { program := "ytodlfmagkjblgaa", sum := "2e5a1bc82f509f8e03bf78ec86dfe6c20776368d45a1d08edc09262a6effc932", func := "loop.example/g03110/laws.FnSchemes", spec := "fnSchemes", apart := false, narrowed := true }
def FnSchemesUptoSaid : Prop := fnSchemesUptoRow.holds Try.pinned (OpenSpec.upto fnSchemesSpec)

/-- 'laws.FnExactLogWords', WHERE WHAT IT READS IS OF BULK AT MOST 1048576: true; the input reads as it did. -/
def fnExactLogWordsUptoRow : OpenClaim := { program := "ytodlfmagkjblgaa", sum := "2e5a1bc82f509f8e03bf78ec86dfe6c20776368d45a1d08edc09262a6effc932", func := "loop.example/g03110/laws.FnExactLogWords", spec := "fnExactLogWords", apart := false, narrowed := true }
def FnExactLogWordsUptoSaid : Prop := fnExactLogWordsUptoRow.holds Try.pinned (OpenSpec.upto fnExactLogWordsSpec)

/-- 'laws.FnExactExpWords', WHERE WHAT IT READS IS OF BULK AT MOST 1048576: true; the input reads as it did. -/
def fnExactExpWordsUptoRow : OpenClaim := { program := "ytodlfmagkjblgaa", sum := "2e5a1bc82f509f8e03bf78ec86dfe6c20776368d45a1d08edc09262a6effc932", func := "loop.example/g03110/laws.FnExactExpWords", spec := "fnExactExpWords", apart := false, narrowed := true }
def FnExactExpWordsUptoSaid : Prop := fnExactExpWordsUptoRow.holds Try.pinned (OpenSpec.upto fnExactExpWordsSpec)

/-- 'laws.FnExactOrderOfScheme', WHERE WHAT IT READS IS OF BULK AT MOST 1048576: true; the input reads as it did. -/
def fnExactOrderOfSchemeUptoRow : OpenClaim := { program := "ytodlfmagkjblgaa", sum := "2e5a1bc82f509f8e03bf78ec86dfe6c20776368d45a1d08edc09262a6effc932", func := "loop.example/g03110/laws.FnExactOrderOfScheme", spec := "fnExactOrderOfScheme", apart := false, narrowed := true }
def FnExactOrderOfSchemeUptoSaid : Prop := fnExactOrderOfSchemeUptoRow.holds Try.pinned (OpenSpec.upto fnExactOrderOfSchemeSpec)

/-- 'laws.FnExactSchemeWords', WHERE WHAT IT READS IS OF BULK AT MOST 1048576: true; the input reads as it did. -/
def fnExactSchemeWordsUptoRow : OpenClaim := { program := "ytodlfmagkjblgaa", sum := "2e5a1bc82f509f8e03bf78ec86dfe6c20776368d45a1d08edc09262a6effc932", func := "loop.example/g03110/laws.FnExactSchemeWords", spec := "fnExactSchemeWords", apart := false, narrowed := true }
def FnExactSchemeWordsUptoSaid : Prop := fnExactSchemeWordsUptoRow.holds Try.pinned (OpenSpec.upto fnExactSchemeWordsSpec)

end Rows
end Go.Proofs.Ytodlfmagkjblgaa
