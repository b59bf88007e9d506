/-
  No cell of these rows narrows 'for every input' (looked for: loops, veiled, ifaces, maps, wideKeys, modest, calm, conditions, laid).
  DERIVED. THE GIVEN ROWS OF THIS SEAT. 12 by the template 'for every input the law returns true; each argument reads behind the call as it read before'; 0 by the template 'total and deterministic' (their statements: YtcjppomkonbbcaaTotals.lean).
  GIVEN WITH THE SEED: the statements are not yours to turn. If you find one false, say at which input.
  Laid BY PROGRAM, IN A SANDBOX (cutbox-rows.mjs): the forced cells as the released guide's own fill.sh prints them over the translation e4c796ecc1ad1439… (all of the seat's roots in one cut). By AI agents, Wed Nov 11 2026. No macro, syntax, notation, axiom, sorry.
-/
import Derived.Test.YtcjppomkonbbcaaChecked
import GoSem.Claim
import GoSem.ClaimJoined
import GoSem.ClaimMapViews
import Derived.JoinedTies
import Derived.KernelRfl
namespace Go.Proofs.Ytcjppomkonbbcaa
/- THE CELL 'sum', in the pinned program and in every row, IS THE sha256 OF THE DUMP (.gsa) THAT YtcjppomkonbbcaaProg.lean LOADS. Nothing in Lean hashes anything: it is a label: what it is worth is what the hold of that sum in a sandbox is worth. -/
noncomputable def Try.pinned : Pinned := { name := "ytcjppomkonbbcaa", sum := "e4c796ecc1ad14395c481a0781ff974600dd481b2bb09fa28e4cf319884f28fb", checked := Try.checked }
namespace Rows
def none {H : Type} : Left H := { results := [], args := [] }

/-- 'laws.FnExactCountShades': WHATEVER THE INPUT: true; the input reads as it did. -/
def fnExactCountShadesSpec : ChangeSpec := { name := "fnExactCountShades", fn := fun _ => fun
  | [d] => { results := [.lit (.bool true)], args := [d] }
  | _ => none }
def fnExactCountShadesRow : OpenClaim := { program := "ytcjppomkonbbcaa", sum := "e4c796ecc1ad14395c481a0781ff974600dd481b2bb09fa28e4cf319884f28fb", func := "loop.example/g03110/laws.FnExactCountShades", spec := "fnExactCountShades", apart := false }
def FnExactCountShadesSaid : Prop := fnExactCountShadesRow.holds Try.pinned (OpenSpec.ofChange fnExactCountShadesSpec)

/-- ITS FALSE NEIGHBOUR: 'it returns false'. Refute it at one input. -/
def fnExactCountShadesWrong : ChangeSpec := { name := "fnExactCountShades", fn := fun _ => fun
  | [d] => { results := [.lit (.bool false)], args := [d] }
  | _ => none }
def FnExactCountShadesWrongFalsely : Prop := fnExactCountShadesRow.holds Try.pinned (OpenSpec.ofChange fnExactCountShadesWrong)

/-- 'laws.FnExactPlaceOfWord': WHATEVER THE INPUT: true; the input reads as it did. -/
def fnExactPlaceOfWordSpec : ChangeSpec := { name := "fnExactPlaceOfWord", fn := fun _ => fun
  | [d] => { results := [.lit (.bool true)], args := [d] }
  | _ => none }
def fnExactPlaceOfWordRow : OpenClaim := { program := "ytcjppomkonbbcaa", sum := "e4c796ecc1ad14395c481a0781ff974600dd481b2bb09fa28e4cf319884f28fb", func := "loop.example/g03110/laws.FnExactPlaceOfWord", spec := "fnExactPlaceOfWord", apart := false }
def FnExactPlaceOfWordSaid : Prop := fnExactPlaceOfWordRow.holds Try.pinned (OpenSpec.ofChange fnExactPlaceOfWordSpec)

/-- ITS FALSE NEIGHBOUR: 'it returns false'. Refute it at one input. -/
def fnExactPlaceOfWordWrong : ChangeSpec := { name := "fnExactPlaceOfWord", fn := fun _ => fun
  | [d] => { results := [.lit (.bool false)], args := [d] }
  | _ => none }
def FnExactPlaceOfWordWrongFalsely : Prop := fnExactPlaceOfWordRow.holds Try.pinned (OpenSpec.ofChange fnExactPlaceOfWordWrong)

/-- 'laws.FnExactIsShades': WHATEVER THE INPUT: true; the input reads as it did. -/
def fnExactIsShadesSpec : ChangeSpec := { name := "fnExactIsShades", fn := fun _ => fun
  | [d] => { results := [.lit (.bool true)], args := [d] }
  | _ => none }
def fnExactIsShadesRow : OpenClaim := { program := "ytcjppomkonbbcaa", sum := "e4c796ecc1ad14395c481a0781ff974600dd481b2bb09fa28e4cf319884f28fb", func := "loop.example/g03110/laws.FnExactIsShades", spec := "fnExactIsShades", apart := false }
def FnExactIsShadesSaid : Prop := fnExactIsShadesRow.holds Try.pinned (OpenSpec.ofChange fnExactIsShadesSpec)

/-- ITS FALSE NEIGHBOUR: 'it returns false'. Refute it at one input. -/
def fnExactIsShadesWrong : ChangeSpec := { name := "fnExactIsShades", fn := fun _ => fun
  | [d] => { results := [.lit (.bool false)], args := [d] }
  | _ => none }
def FnExactIsShadesWrongFalsely : Prop := fnExactIsShadesRow.holds Try.pinned (OpenSpec.ofChange fnExactIsShadesWrong)

/-- 'laws.FnExactSchemeOk': WHATEVER THE INPUT: true; the input reads as it did. -/
def fnExactSchemeOkSpec : ChangeSpec := { name := "fnExactSchemeOk", fn := fun _ => fun
  | [d] => { results := [.lit (.bool true)], args := [d] }
  | _ => none }
def fnExactSchemeOkRow : OpenClaim := { program := "ytcjppomkonbbcaa", sum := "e4c796ecc1ad14395c481a0781ff974600dd481b2bb09fa28e4cf319884f28fb", func := "loop.example/g03110/laws.FnExactSchemeOk", spec := "fnExactSchemeOk", apart := false }
def FnExactSchemeOkSaid : Prop := fnExactSchemeOkRow.holds Try.pinned (OpenSpec.ofChange fnExactSchemeOkSpec)

/-- ITS FALSE NEIGHBOUR: 'it returns false'. Refute it at one input. -/
def fnExactSchemeOkWrong : ChangeSpec := { name := "fnExactSchemeOk", fn := fun _ => fun
  | [d] => { results := [.lit (.bool false)], args := [d] }
  | _ => none }
def FnExactSchemeOkWrongFalsely : Prop := fnExactSchemeOkRow.holds Try.pinned (OpenSpec.ofChange fnExactSchemeOkWrong)

/-- 'laws.FnExactUnitWords': WHATEVER THE INPUT: true; the input reads as it did. -/
def fnExactUnitWordsSpec : ChangeSpec := { name := "fnExactUnitWords", fn := fun _ => fun
  | [d] => { results := [.lit (.bool true)], args := [d] }
  | _ => none }
def fnExactUnitWordsRow : OpenClaim := { program := "ytcjppomkonbbcaa", sum := "e4c796ecc1ad14395c481a0781ff974600dd481b2bb09fa28e4cf319884f28fb", func := "loop.example/g03110/laws.FnExactUnitWords", spec := "fnExactUnitWords", apart := false }
def FnExactUnitWordsSaid : Prop := fnExactUnitWordsRow.holds Try.pinned (OpenSpec.ofChange fnExactUnitWordsSpec)

/-- ITS FALSE NEIGHBOUR: 'it returns false'. Refute it at one input. -/
def fnExactUnitWordsWrong : ChangeSpec := { name := "fnExactUnitWords", fn := fun _ => fun
  | [d] => { results := [.lit (.bool false)], args := [d] }
  | _ => none }
def FnExactUnitWordsWrongFalsely : Prop := fnExactUnitWordsRow.holds Try.pinned (OpenSpec.ofChange fnExactUnitWordsWrong)

/-- 'laws.FnExactLetterWords': WHATEVER THE INPUT: true; the input reads as it did. -/
def fnExactLetterWordsSpec : ChangeSpec := { name := "fnExactLetterWords", fn := fun _ => fun
  | [d1, d2, d3] => { results := [.lit (.bool true)], args := [d1, d2, d3] }
  | _ => none }
def fnExactLetterWordsRow : OpenClaim := { program := "ytcjppomkonbbcaa", sum := "e4c796ecc1ad14395c481a0781ff974600dd481b2bb09fa28e4cf319884f28fb", func := "loop.example/g03110/laws.FnExactLetterWords", spec := "fnExactLetterWords", apart := false }
def FnExactLetterWordsSaid : Prop := fnExactLetterWordsRow.holds Try.pinned (OpenSpec.ofChange fnExactLetterWordsSpec)

/-- ITS FALSE NEIGHBOUR: 'it returns false'. Refute it at one input. -/
def fnExactLetterWordsWrong : ChangeSpec := { name := "fnExactLetterWords", fn := fun _ => fun
  | [d1, d2, d3] => { results := [.lit (.bool false)], args := [d1, d2, d3] }
  | _ => none }
def FnExactLetterWordsWrongFalsely : Prop := fnExactLetterWordsRow.holds Try.pinned (OpenSpec.ofChange fnExactLetterWordsWrong)

/-- 'laws.FnExactWordsOk': WHATEVER THE INPUT: true; the input reads as it did. -/
def fnExactWordsOkSpec : ChangeSpec := { name := "fnExactWordsOk", fn := fun _ => fun
  | [d] => { results := [.lit (.bool true)], args := [d] }
  | _ => none }
def fnExactWordsOkRow : OpenClaim := { program := "ytcjppomkonbbcaa", sum := "e4c796ecc1ad14395c481a0781ff974600dd481b2bb09fa28e4cf319884f28fb", func := "loop.example/g03110/laws.FnExactWordsOk", spec := "fnExactWordsOk", apart := false }
def FnExactWordsOkSaid : Prop := fnExactWordsOkRow.holds Try.pinned (OpenSpec.ofChange fnExactWordsOkSpec)

/-- ITS FALSE NEIGHBOUR: 'it returns false'. Refute it at one input. -/
def fnExactWordsOkWrong : ChangeSpec := { name := "fnExactWordsOk", fn := fun _ => fun
  | [d] => { results := [.lit (.bool false)], args := [d] }
  | _ => none }
def FnExactWordsOkWrongFalsely : Prop := fnExactWordsOkRow.holds Try.pinned (OpenSpec.ofChange fnExactWordsOkWrong)

/-- 'laws.FnExactPairOk': WHATEVER THE INPUT: true; the input reads as it did. -/
def fnExactPairOkSpec : ChangeSpec := { name := "fnExactPairOk", fn := fun _ => fun
  | [d] => { results := [.lit (.bool true)], args := [d] }
  | _ => none }
def fnExactPairOkRow : OpenClaim := { program := "ytcjppomkonbbcaa", sum := "e4c796ecc1ad14395c481a0781ff974600dd481b2bb09fa28e4cf319884f28fb", func := "loop.example/g03110/laws.FnExactPairOk", spec := "fnExactPairOk", apart := false }
def FnExactPairOkSaid : Prop := fnExactPairOkRow.holds Try.pinned (OpenSpec.ofChange fnExactPairOkSpec)

/-- ITS FALSE NEIGHBOUR: 'it returns false'. Refute it at one input. -/
def fnExactPairOkWrong : ChangeSpec := { name := "fnExactPairOk", fn := fun _ => fun
  | [d] => { results := [.lit (.bool false)], args := [d] }
  | _ => none }
def FnExactPairOkWrongFalsely : Prop := fnExactPairOkRow.holds Try.pinned (OpenSpec.ofChange fnExactPairOkWrong)

/-- 'laws.FnExactReverseScheme': WHATEVER THE INPUT: true; the input reads as it did. -/
def fnExactReverseSchemeSpec : ChangeSpec := { name := "fnExactReverseScheme", fn := fun _ => fun
  | [d] => { results := [.lit (.bool true)], args := [d] }
  | _ => none }
def fnExactReverseSchemeRow : OpenClaim := { program := "ytcjppomkonbbcaa", sum := "e4c796ecc1ad14395c481a0781ff974600dd481b2bb09fa28e4cf319884f28fb", func := "loop.example/g03110/laws.FnExactReverseScheme", spec := "fnExactReverseScheme", apart := false }
def FnExactReverseSchemeSaid : Prop := fnExactReverseSchemeRow.holds Try.pinned (OpenSpec.ofChange fnExactReverseSchemeSpec)

/-- ITS FALSE NEIGHBOUR: 'it returns false'. Refute it at one input. -/
def fnExactReverseSchemeWrong : ChangeSpec := { name := "fnExactReverseScheme", fn := fun _ => fun
  | [d] => { results := [.lit (.bool false)], args := [d] }
  | _ => none }
def FnExactReverseSchemeWrongFalsely : Prop := fnExactReverseSchemeRow.holds Try.pinned (OpenSpec.ofChange fnExactReverseSchemeWrong)

/-- 'laws.FnExactKnownScheme': WHATEVER THE INPUT: true; the input reads as it did. -/
def fnExactKnownSchemeSpec : ChangeSpec := { name := "fnExactKnownScheme", fn := fun _ => fun
  | [d] => { results := [.lit (.bool true)], args := [d] }
  | _ => none }
def fnExactKnownSchemeRow : OpenClaim := { program := "ytcjppomkonbbcaa", sum := "e4c796ecc1ad14395c481a0781ff974600dd481b2bb09fa28e4cf319884f28fb", func := "loop.example/g03110/laws.FnExactKnownScheme", spec := "fnExactKnownScheme", apart := false }
def FnExactKnownSchemeSaid : Prop := fnExactKnownSchemeRow.holds Try.pinned (OpenSpec.ofChange fnExactKnownSchemeSpec)

/-- ITS FALSE NEIGHBOUR: 'it returns false'. Refute it at one input. -/
def fnExactKnownSchemeWrong : ChangeSpec := { name := "fnExactKnownScheme", fn := fun _ => fun
  | [d] => { results := [.lit (.bool false)], args := [d] }
  | _ => none }
def FnExactKnownSchemeWrongFalsely : Prop := fnExactKnownSchemeRow.holds Try.pinned (OpenSpec.ofChange fnExactKnownSchemeWrong)

/-- 'laws.FnExactScaleWords': WHATEVER THE INPUT: true; the input reads as it did. -/
def fnExactScaleWordsSpec : ChangeSpec := { name := "fnExactScaleWords", fn := fun _ => fun
  | [d1, d2] => { results := [.lit (.bool true)], args := [d1, d2] }
  | _ => none }
def fnExactScaleWordsRow : OpenClaim := { program := "ytcjppomkonbbcaa", sum := "e4c796ecc1ad14395c481a0781ff974600dd481b2bb09fa28e4cf319884f28fb", func := "loop.example/g03110/laws.FnExactScaleWords", spec := "fnExactScaleWords", apart := false }
def FnExactScaleWordsSaid : Prop := fnExactScaleWordsRow.holds Try.pinned (OpenSpec.ofChange fnExactScaleWordsSpec)

/-- ITS FALSE NEIGHBOUR: 'it returns false'. Refute it at one input. -/
def fnExactScaleWordsWrong : ChangeSpec := { name := "fnExactScaleWords", fn := fun _ => fun
  | [d1, d2] => { results := [.lit (.bool false)], args := [d1, d2] }
  | _ => none }
def FnExactScaleWordsWrongFalsely : Prop := fnExactScaleWordsRow.holds Try.pinned (OpenSpec.ofChange fnExactScaleWordsWrong)

/-- 'laws.FnExactAddWords': WHATEVER THE INPUT: true; the input reads as it did. -/
def fnExactAddWordsSpec : ChangeSpec := { name := "fnExactAddWords", fn := fun _ => fun
  | [d1, d2] => { results := [.lit (.bool true)], args := [d1, d2] }
  | _ => none }
def fnExactAddWordsRow : OpenClaim := { program := "ytcjppomkonbbcaa", sum := "e4c796ecc1ad14395c481a0781ff974600dd481b2bb09fa28e4cf319884f28fb", func := "loop.example/g03110/laws.FnExactAddWords", spec := "fnExactAddWords", apart := false }
def FnExactAddWordsSaid : Prop := fnExactAddWordsRow.holds Try.pinned (OpenSpec.ofChange fnExactAddWordsSpec)

/-- ITS FALSE NEIGHBOUR: 'it returns false'. Refute it at one input. -/
def fnExactAddWordsWrong : ChangeSpec := { name := "fnExactAddWords", fn := fun _ => fun
  | [d1, d2] => { results := [.lit (.bool false)], args := [d1, d2] }
  | _ => none }
def FnExactAddWordsWrongFalsely : Prop := fnExactAddWordsRow.holds Try.pinned (OpenSpec.ofChange fnExactAddWordsWrong)

/- THE SECOND FORM. 'bulk': how many values and letters a reading holds, each counted each time it is reached (what is shared counts as often as it is met; a slice's spare places count too). A statement '..UptoSaid' is the law's where the arguments, and the package variables that the reading takes, are together of bulk at most 1048576: NARROWER than '..Said'. Prove '..Said' where nothing that the law and all that it calls make is longer than what came in: it says more and counts as full. Else prove '..UptoSaid'. A law counts once. -/
mutual
def uptoBulk {H : Type} : DataW H → Nat
  | .lit (.string bytes) => bytes.length + 1
  | .lit _ => 1
  | .nil => 1
  | .ptr d => uptoBulk d + 1
  | .slice elems spare => uptoBulkAll elems + uptoBulkAll spare + 1
  | .agg parts => uptoBulkAll parts + 1
  | .iface _ d => uptoBulk d + 1
  | .map entries => uptoBulkEntries entries + 1
  | .held _ => 1
def uptoBulkAll {H : Type} : List (DataW H) → Nat
  | [] => 0
  | d :: r => uptoBulk d + uptoBulkAll r
def uptoBulkEntries {H : Type} : List (Lit × DataW H) → Nat
  | [] => 0
  | x :: r => uptoBulkEntry x + uptoBulkEntries r
def uptoBulkEntry {H : Type} : Lit × DataW H → Nat
  | (.string bytes, d) => bytes.length + uptoBulk d + 1
  | (_, d) => uptoBulk d + 1
 end
def uptoSmall : (H : Type) → List (DataW H) → Bool := fun _ ds => decide (uptoBulkAll ds ≤ 1048576)
def OpenSpec.upto (s : _root_.Go.ChangeSpec) : _root_.Go.OpenSpec := { _root_.Go.OpenSpec.ofChange s with cond := some uptoSmall }

/-- 'laws.FnExactCountShades', WHERE WHAT IT READS IS OF BULK AT MOST 1048576: true; the input reads as it did. -/
def fnExactCountShadesUptoRow : OpenClaim := { program := "ytcjppomkonbbcaa", sum := "e4c796ecc1ad14395c481a0781ff974600dd481b2bb09fa28e4cf319884f28fb", func := "loop.example/g03110/laws.FnExactCountShades", spec := "fnExactCountShades", apart := false, narrowed := true }
def FnExactCountShadesUptoSaid : Prop := fnExactCountShadesUptoRow.holds Try.pinned (OpenSpec.upto fnExactCountShadesSpec)

/-- 'laws.FnExactPlaceOfWord', WHERE WHAT IT READS IS OF BULK AT MOST 1048576: true; the input reads as it did. -/
def fnExactPlaceOfWordUptoRow : OpenClaim := { program := "ytcjppomkonbbcaa", sum := "e4c796ecc1ad14395c481a0781ff974600dd481b2bb09fa28e4cf319884f28fb", func := "loop.example/g03110/laws.FnExactPlaceOfWord", spec := "fnExactPlaceOfWord", apart := false, narrowed := true }
def FnExactPlaceOfWordUptoSaid : Prop := fnExactPlaceOfWordUptoRow.holds Try.pinned (OpenSpec.upto fnExactPlaceOfWordSpec)

/-- 'laws.FnExactIsShades', WHERE WHAT IT READS IS OF BULK AT MOST 1048576: true; the input reads as it did. -/
def fnExactIsShadesUptoRow : OpenClaim := { program := "ytcjppomkonbbcaa", sum := "e4c796ecc1ad14395c481a0781ff974600dd481b2bb09fa28e4cf319884f28fb", func := "loop.example/g03110/laws.FnExactIsShades", spec := "fnExactIsShades", apart := false, narrowed := true }
def FnExactIsShadesUptoSaid : Prop := fnExactIsShadesUptoRow.holds Try.pinned (OpenSpec.upto fnExactIsShadesSpec)

/-- 'laws.FnExactSchemeOk', WHERE WHAT IT READS IS OF BULK AT MOST 1048576: true; the input reads as it did. -/
def fnExactSchemeOkUptoRow : OpenClaim := { program := "ytcjppomkonbbcaa", sum := "e4c796ecc1ad14395c481a0781ff974600dd481b2bb09fa28e4cf319884f28fb", func := "loop.example/g03110/laws.FnExactSchemeOk", spec := "fnExactSchemeOk", apart := false, narrowed := true }
def FnExactSchemeOkUptoSaid : Prop := fnExactSchemeOkUptoRow.holds Try.pinned (OpenSpec.upto fnExactSchemeOkSpec)

/-- 'laws.FnExactUnitWords', WHERE WHAT IT READS IS OF BULK AT MOST 1048576: true; the input reads as it did. -/
def fnExactUnitWordsUptoRow : OpenClaim := { program := "ytcjppomkonbbcaa", sum := "e4c796ecc1ad14395c481a0781ff974600dd481b2bb09fa28e4cf319884f28fb", func := "loop.example/g03110/laws.FnExactUnitWords", spec := "fnExactUnitWords", apart := false, narrowed := true }
def FnExactUnitWordsUptoSaid : Prop := fnExactUnitWordsUptoRow.holds Try.pinned (OpenSpec.upto fnExactUnitWordsSpec)

/-- 'laws.FnExactLetterWords', WHERE WHAT IT READS IS OF BULK AT MOST 1048576: true; the input reads as it did. -/
def fnExactLetterWordsUptoRow : OpenClaim := { program := "ytcjppomkonbbcaa", sum := "e4c796ecc1ad14395c481a0781ff974600dd481b2bb09fa28e4cf319884f28fb", func := "loop.example/g03110/laws.FnExactLetterWords", spec := "fnExactLetterWords", apart := false, narrowed := true }
def FnExactLetterWordsUptoSaid : Prop := fnExactLetterWordsUptoRow.holds Try.pinned (OpenSpec.upto fnExactLetterWordsSpec)

/-- 'laws.FnExactWordsOk', WHERE WHAT IT READS IS OF BULK AT MOST 1048576: true; the input reads as it did. -/
def fnExactWordsOkUptoRow : OpenClaim := { program := "ytcjppomkonbbcaa", sum := "e4c796ecc1ad14395c481a0781ff974600dd481b2bb09fa28e4cf319884f28fb", func := "loop.example/g03110/laws.FnExactWordsOk", spec := "fnExactWordsOk", apart := false, narrowed := true }
def FnExactWordsOkUptoSaid : Prop := fnExactWordsOkUptoRow.holds Try.pinned (OpenSpec.upto fnExactWordsOkSpec)

/-- 'laws.FnExactPairOk', WHERE WHAT IT READS IS OF BULK AT MOST 1048576: true; the input reads as it did. -/
def fnExactPairOkUptoRow : OpenClaim := { program := "ytcjppomkonbbcaa", sum := "e4c796ecc1ad14395c481a0781ff974600dd481b2bb09fa28e4cf319884f28fb", func := "loop.example/g03110/laws.FnExactPairOk", spec := "fnExactPairOk", apart := false, narrowed := true }
def FnExactPairOkUptoSaid : Prop := fnExactPairOkUptoRow.holds Try.pinned (OpenSpec.upto fnExactPairOkSpec)

/-- 'laws.FnExactReverseScheme', WHERE WHAT IT READS IS OF BULK AT MOST 1048576: true; the input reads as it did. -/
def fnExactReverseSchemeUptoRow : OpenClaim := { program := "ytcjppomkonbbcaa", sum := "e4c796ecc1ad14395c481a0781ff974600dd481b2bb09fa28e4cf319884f28fb", func := "loop.example/g03110/laws.FnExactReverseScheme", spec := "fnExactReverseScheme", apart := false, narrowed := true }
def FnExactReverseSchemeUptoSaid : Prop := fnExactReverseSchemeUptoRow.holds Try.pinned (OpenSpec.upto fnExactReverseSchemeSpec)

/-- 'laws.FnExactKnownScheme', WHERE WHAT IT READS IS OF BULK AT MOST 1048576: true; the input reads as it did. -/
def fnExactKnownSchemeUptoRow : OpenClaim := { program := "ytcjppomkonbbcaa", sum := "e4c796ecc1ad14395c481a0781ff974600dd481b2bb09fa28e4cf319884f28fb", func := "loop.example/g03110/laws.FnExactKnownScheme", spec := "fnExactKnownScheme", apart := false, narrowed := true }
def FnExactKnownSchemeUptoSaid : Prop := fnExactKnownSchemeUptoRow.holds Try.pinned (OpenSpec.upto fnExactKnownSchemeSpec)

/-- 'laws.FnExactScaleWords', WHERE WHAT IT READS IS OF BULK AT MOST 1048576: true; the input reads as it did. -/
def fnExactScaleWordsUptoRow : OpenClaim := { program := "ytcjppomkonbbcaa", sum := "e4c796ecc1ad14395c481a0781ff974600dd481b2bb09fa28e4cf319884f28fb", func := "loop.example/g03110/laws.FnExactScaleWords", spec := "fnExactScaleWords", apart := false, narrowed := true }
def FnExactScaleWordsUptoSaid : Prop := fnExactScaleWordsUptoRow.holds Try.pinned (OpenSpec.upto fnExactScaleWordsSpec)

/-- 'laws.FnExactAddWords', WHERE WHAT IT READS IS OF BULK AT MOST 1048576: true; the input reads as it did. -/
def fnExactAddWordsUptoRow : OpenClaim := { program := "ytcjppomkonbbcaa", sum := "e4c796ecc1ad14395c481a0781ff974600dd481b2bb09fa28e4cf319884f28fb", func := "loop.example/g03110/laws.FnExactAddWords", spec := "fnExactAddWords", apart := false, narrowed := true }
def FnExactAddWordsUptoSaid : Prop := fnExactAddWordsUptoRow.holds Try.pinned (OpenSpec.upto fnExactAddWordsSpec)

end Rows
end Go.Proofs.Ytcjppomkonbbcaa
