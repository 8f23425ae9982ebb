/-
  No cell of these rows narrows 'for every input' (looked for: loops, veiled, ifaces, maps, wideKeys, modest, calm, conditions, laid).
  DERIVED. THE GIVEN ROWS OF THIS SEAT. 12 by the template 'for every input the law returns true; each argument reads behind the call as it read before'; 0 by the template 'total and deterministic' (their statements: YtmgfjelhgkihfaaTotals.lean).
  GIVEN WITH THE SEED: the statements are not yours to turn. If you find one false, say at which input.
  Laid BY PROGRAM, IN A SANDBOX (cutbox-rows.mjs): the forced cells as the released guide's own fill.sh prints them over the translation f3d5d251eac2203a… (all of the seat's roots in one cut). By AI agents, Wed Nov 11 2026. No macro, syntax, notation, axiom, sorry.
-/
import Derived.Test.YtmgfjelhgkihfaaChecked
import GoSem.Claim
import GoSem.ClaimJoined
import GoSem.ClaimMapViews
import Derived.JoinedTies
import Derived.KernelRfl
namespace Go.Proofs.Ytmgfjelhgkihfaa
/- THE CELL 'sum', in the pinned program and in every row, IS THE sha256 OF THE DUMP (.gsa) THAT YtmgfjelhgkihfaaProg.lean LOADS. Nothing in Lean hashes anything: it is a label: what it is worth is what the hold of that sum in a sandbox is worth. -/
noncomputable def Try.pinned : Pinned := { name := "ytmgfjelhgkihfaa", sum := "f3d5d251eac2203addc91aaee19799000cb223c673a16267b904f4a19e3cf19a", checked := Try.checked }
namespace Rows
def none {H : Type} : Left H := { results := [], args := [] }

/-- 'laws.FnExactNewClub': WHATEVER THE INPUT: true; the input reads as it did. -/
def fnExactNewClubSpec : ChangeSpec := { name := "fnExactNewClub", fn := fun _ => fun
  | [d] => { results := [.lit (.bool true)], args := [d] }
  | _ => none }
def fnExactNewClubRow : OpenClaim := { program := "ytmgfjelhgkihfaa", sum := "f3d5d251eac2203addc91aaee19799000cb223c673a16267b904f4a19e3cf19a", func := "loop.example/savingsclub/laws.FnExactNewClub", spec := "fnExactNewClub", apart := false }
def FnExactNewClubSaid : Prop := fnExactNewClubRow.holds Try.pinned (OpenSpec.ofChange fnExactNewClubSpec)

/-- ITS FALSE NEIGHBOUR: 'it returns false'. Refute it at one input. -/
def fnExactNewClubWrong : ChangeSpec := { name := "fnExactNewClub", fn := fun _ => fun
  | [d] => { results := [.lit (.bool false)], args := [d] }
  | _ => none }
def FnExactNewClubWrongFalsely : Prop := fnExactNewClubRow.holds Try.pinned (OpenSpec.ofChange fnExactNewClubWrong)

/-- 'laws.FnExactMistakeOf': WHATEVER THE INPUT: true; the input reads as it did. -/
def fnExactMistakeOfSpec : ChangeSpec := { name := "fnExactMistakeOf", fn := fun _ => fun
  | [d1, d2] => { results := [.lit (.bool true)], args := [d1, d2] }
  | _ => none }
def fnExactMistakeOfRow : OpenClaim := { program := "ytmgfjelhgkihfaa", sum := "f3d5d251eac2203addc91aaee19799000cb223c673a16267b904f4a19e3cf19a", func := "loop.example/savingsclub/laws.FnExactMistakeOf", spec := "fnExactMistakeOf", recurses := true, apart := false }
def FnExactMistakeOfSaid : Prop := fnExactMistakeOfRow.holds Try.pinned (OpenSpec.ofChange fnExactMistakeOfSpec)

/-- ITS FALSE NEIGHBOUR: 'it returns false'. Refute it at one input. -/
def fnExactMistakeOfWrong : ChangeSpec := { name := "fnExactMistakeOf", fn := fun _ => fun
  | [d1, d2] => { results := [.lit (.bool false)], args := [d1, d2] }
  | _ => none }
def FnExactMistakeOfWrongFalsely : Prop := fnExactMistakeOfRow.holds Try.pinned (OpenSpec.ofChange fnExactMistakeOfWrong)

/-- 'laws.FnValidShares': WHATEVER THE INPUT: true; the input reads as it did. -/
def fnValidSharesSpec : ChangeSpec := { name := "fnValidShares", fn := fun _ => fun
  | [d] => { results := [.lit (.bool true)], args := [d] }
  | _ => none }
def fnValidSharesRow : OpenClaim := { program := "ytmgfjelhgkihfaa", sum := "f3d5d251eac2203addc91aaee19799000cb223c673a16267b904f4a19e3cf19a", func := "loop.example/savingsclub/laws.FnValidShares", spec := "fnValidShares", apart := false }
def FnValidSharesSaid : Prop := fnValidSharesRow.holds Try.pinned (OpenSpec.ofChange fnValidSharesSpec)

/-- ITS FALSE NEIGHBOUR: 'it returns false'. Refute it at one input. -/
def fnValidSharesWrong : ChangeSpec := { name := "fnValidShares", fn := fun _ => fun
  | [d] => { results := [.lit (.bool false)], args := [d] }
  | _ => none }
def FnValidSharesWrongFalsely : Prop := fnValidSharesRow.holds Try.pinned (OpenSpec.ofChange fnValidSharesWrong)

/-- 'laws.FnVested': WHATEVER THE INPUT: true; the input reads as it did. -/
def fnVestedSpec : ChangeSpec := { name := "fnVested", fn := fun _ => fun
  | [d] => { results := [.lit (.bool true)], args := [d] }
  | _ => none }
def fnVestedRow : OpenClaim := { program := "ytmgfjelhgkihfaa", sum := "f3d5d251eac2203addc91aaee19799000cb223c673a16267b904f4a19e3cf19a", func := "loop.example/savingsclub/laws.FnVested", spec := "fnVested", named := ["math/bits.divideError", "math/bits.overflowError"], apart := false }
def FnVestedSaid : Prop := fnVestedRow.holds Try.pinned (OpenSpec.ofChange fnVestedSpec)

/-- ITS FALSE NEIGHBOUR: 'it returns false'. Refute it at one input. -/
def fnVestedWrong : ChangeSpec := { name := "fnVested", fn := fun _ => fun
  | [d] => { results := [.lit (.bool false)], args := [d] }
  | _ => none }
def FnVestedWrongFalsely : Prop := fnVestedRow.holds Try.pinned (OpenSpec.ofChange fnVestedWrong)

/-- 'laws.FnLeastPayOne': WHATEVER THE INPUT: true; the input reads as it did. -/
def fnLeastPayOneSpec : ChangeSpec := { name := "fnLeastPayOne", fn := fun _ => fun
  | [d] => { results := [.lit (.bool true)], args := [d] }
  | _ => none }
def fnLeastPayOneRow : OpenClaim := { program := "ytmgfjelhgkihfaa", sum := "f3d5d251eac2203addc91aaee19799000cb223c673a16267b904f4a19e3cf19a", func := "loop.example/savingsclub/laws.FnLeastPayOne", spec := "fnLeastPayOne", apart := false }
def FnLeastPayOneSaid : Prop := fnLeastPayOneRow.holds Try.pinned (OpenSpec.ofChange fnLeastPayOneSpec)

/-- ITS FALSE NEIGHBOUR: 'it returns false'. Refute it at one input. -/
def fnLeastPayOneWrong : ChangeSpec := { name := "fnLeastPayOne", fn := fun _ => fun
  | [d] => { results := [.lit (.bool false)], args := [d] }
  | _ => none }
def FnLeastPayOneWrongFalsely : Prop := fnLeastPayOneRow.holds Try.pinned (OpenSpec.ofChange fnLeastPayOneWrong)

/-- 'laws.FnValidLoans': WHATEVER THE INPUT: true; the input reads as it did. -/
def fnValidLoansSpec : ChangeSpec := { name := "fnValidLoans", fn := fun _ => fun
  | [d] => { results := [.lit (.bool true)], args := [d] }
  | _ => none }
def fnValidLoansRow : OpenClaim := { program := "ytmgfjelhgkihfaa", sum := "f3d5d251eac2203addc91aaee19799000cb223c673a16267b904f4a19e3cf19a", func := "loop.example/savingsclub/laws.FnValidLoans", spec := "fnValidLoans", apart := false }
def FnValidLoansSaid : Prop := fnValidLoansRow.holds Try.pinned (OpenSpec.ofChange fnValidLoansSpec)

/-- ITS FALSE NEIGHBOUR: 'it returns false'. Refute it at one input. -/
def fnValidLoansWrong : ChangeSpec := { name := "fnValidLoans", fn := fun _ => fun
  | [d] => { results := [.lit (.bool false)], args := [d] }
  | _ => none }
def FnValidLoansWrongFalsely : Prop := fnValidLoansRow.holds Try.pinned (OpenSpec.ofChange fnValidLoansWrong)

/-- 'laws.FnExactVetoes': WHATEVER THE INPUT: true; the input reads as it did. -/
def fnExactVetoesSpec : ChangeSpec := { name := "fnExactVetoes", fn := fun _ => fun
  | [d] => { results := [.lit (.bool true)], args := [d] }
  | _ => none }
def fnExactVetoesRow : OpenClaim := { program := "ytmgfjelhgkihfaa", sum := "f3d5d251eac2203addc91aaee19799000cb223c673a16267b904f4a19e3cf19a", func := "loop.example/savingsclub/laws.FnExactVetoes", spec := "fnExactVetoes", apart := false }
def FnExactVetoesSaid : Prop := fnExactVetoesRow.holds Try.pinned (OpenSpec.ofChange fnExactVetoesSpec)

/-- ITS FALSE NEIGHBOUR: 'it returns false'. Refute it at one input. -/
def fnExactVetoesWrong : ChangeSpec := { name := "fnExactVetoes", fn := fun _ => fun
  | [d] => { results := [.lit (.bool false)], args := [d] }
  | _ => none }
def FnExactVetoesWrongFalsely : Prop := fnExactVetoesRow.holds Try.pinned (OpenSpec.ofChange fnExactVetoesWrong)

/-- 'laws.FnDualBody': WHATEVER THE INPUT: true; the input reads as it did. -/
def fnDualBodySpec : ChangeSpec := { name := "fnDualBody", fn := fun _ => fun
  | [d] => { results := [.lit (.bool true)], args := [d] }
  | _ => none }
def fnDualBodyRow : OpenClaim := { program := "ytmgfjelhgkihfaa", sum := "f3d5d251eac2203addc91aaee19799000cb223c673a16267b904f4a19e3cf19a", func := "loop.example/savingsclub/laws.FnDualBody", spec := "fnDualBody", apart := false }
def FnDualBodySaid : Prop := fnDualBodyRow.holds Try.pinned (OpenSpec.ofChange fnDualBodySpec)

/-- ITS FALSE NEIGHBOUR: 'it returns false'. Refute it at one input. -/
def fnDualBodyWrong : ChangeSpec := { name := "fnDualBody", fn := fun _ => fun
  | [d] => { results := [.lit (.bool false)], args := [d] }
  | _ => none }
def FnDualBodyWrongFalsely : Prop := fnDualBodyRow.holds Try.pinned (OpenSpec.ofChange fnDualBodyWrong)

/-- 'laws.FnExactHonest': WHATEVER THE INPUT: true; the input reads as it did. -/
def fnExactHonestSpec : ChangeSpec := { name := "fnExactHonest", fn := fun _ => fun
  | [d] => { results := [.lit (.bool true)], args := [d] }
  | _ => none }
def fnExactHonestRow : OpenClaim := { program := "ytmgfjelhgkihfaa", sum := "f3d5d251eac2203addc91aaee19799000cb223c673a16267b904f4a19e3cf19a", func := "loop.example/savingsclub/laws.FnExactHonest", spec := "fnExactHonest", apart := false }
def FnExactHonestSaid : Prop := fnExactHonestRow.holds Try.pinned (OpenSpec.ofChange fnExactHonestSpec)

/-- ITS FALSE NEIGHBOUR: 'it returns false'. Refute it at one input. -/
def fnExactHonestWrong : ChangeSpec := { name := "fnExactHonest", fn := fun _ => fun
  | [d] => { results := [.lit (.bool false)], args := [d] }
  | _ => none }
def FnExactHonestWrongFalsely : Prop := fnExactHonestRow.holds Try.pinned (OpenSpec.ofChange fnExactHonestWrong)

/-- 'laws.FnShortClass': WHATEVER THE INPUT: true; the input reads as it did. -/
def fnShortClassSpec : ChangeSpec := { name := "fnShortClass", fn := fun _ => fun
  | [d] => { results := [.lit (.bool true)], args := [d] }
  | _ => none }
def fnShortClassRow : OpenClaim := { program := "ytmgfjelhgkihfaa", sum := "f3d5d251eac2203addc91aaee19799000cb223c673a16267b904f4a19e3cf19a", func := "loop.example/savingsclub/laws.FnShortClass", spec := "fnShortClass", apart := false }
def FnShortClassSaid : Prop := fnShortClassRow.holds Try.pinned (OpenSpec.ofChange fnShortClassSpec)

/-- ITS FALSE NEIGHBOUR: 'it returns false'. Refute it at one input. -/
def fnShortClassWrong : ChangeSpec := { name := "fnShortClass", fn := fun _ => fun
  | [d] => { results := [.lit (.bool false)], args := [d] }
  | _ => none }
def FnShortClassWrongFalsely : Prop := fnShortClassRow.holds Try.pinned (OpenSpec.ofChange fnShortClassWrong)

/-- 'laws.FnFirstBelow': WHATEVER THE INPUT: true; the input reads as it did. -/
def fnFirstBelowSpec : ChangeSpec := { name := "fnFirstBelow", fn := fun _ => fun
  | [d] => { results := [.lit (.bool true)], args := [d] }
  | _ => none }
def fnFirstBelowRow : OpenClaim := { program := "ytmgfjelhgkihfaa", sum := "f3d5d251eac2203addc91aaee19799000cb223c673a16267b904f4a19e3cf19a", func := "loop.example/savingsclub/laws.FnFirstBelow", spec := "fnFirstBelow", apart := false }
def FnFirstBelowSaid : Prop := fnFirstBelowRow.holds Try.pinned (OpenSpec.ofChange fnFirstBelowSpec)

/-- ITS FALSE NEIGHBOUR: 'it returns false'. Refute it at one input. -/
def fnFirstBelowWrong : ChangeSpec := { name := "fnFirstBelow", fn := fun _ => fun
  | [d] => { results := [.lit (.bool false)], args := [d] }
  | _ => none }
def FnFirstBelowWrongFalsely : Prop := fnFirstBelowRow.holds Try.pinned (OpenSpec.ofChange fnFirstBelowWrong)

/-- 'laws.FnUndo': WHATEVER THE INPUT: true; the input reads as it did. -/
def fnUndoSpec : ChangeSpec := { name := "fnUndo", fn := fun _ => fun
  | [d] => { results := [.lit (.bool true)], args := [d] }
  | _ => none }
def fnUndoRow : OpenClaim := { program := "ytmgfjelhgkihfaa", sum := "f3d5d251eac2203addc91aaee19799000cb223c673a16267b904f4a19e3cf19a", func := "loop.example/savingsclub/laws.FnUndo", spec := "fnUndo", unfollowed := true, recurses := true, apart := false }
def FnUndoSaid : Prop := fnUndoRow.holds Try.pinned (OpenSpec.ofChange fnUndoSpec)

/-- ITS FALSE NEIGHBOUR: 'it returns false'. Refute it at one input. -/
def fnUndoWrong : ChangeSpec := { name := "fnUndo", fn := fun _ => fun
  | [d] => { results := [.lit (.bool false)], args := [d] }
  | _ => none }
def FnUndoWrongFalsely : Prop := fnUndoRow.holds Try.pinned (OpenSpec.ofChange fnUndoWrong)

/- THE SECOND FORM. 'bulk': how many values and letters a reading holds, each counted each time it is reached (what is shared counts as often as it is met; a slice's spare places count too). A statement '..UptoSaid' is the law's where the arguments, and the package variables that the reading takes, are together of bulk at most 1048576: NARROWER than '..Said'. Prove '..Said' where nothing that the law and all that it calls make is longer than what came in: it says more and counts as full. Else prove '..UptoSaid'. A law counts once. -/
mutual
def uptoBulk {H : Type} : DataW H → Nat
  | .lit (.string bytes) => bytes.length + 1
  | .lit _ => 1
  | .nil => 1
  | .ptr d => uptoBulk d + 1
  | .slice elems spare => uptoBulkAll elems + uptoBulkAll spare + 1
  | .agg parts => uptoBulkAll parts + 1
  | .iface _ d => uptoBulk d + 1
  | .map entries => uptoBulkEntries entries + 1
  | .held _ => 1
def uptoBulkAll {H : Type} : List (DataW H) → Nat
  | [] => 0
  | d :: r => uptoBulk d + uptoBulkAll r
def uptoBulkEntries {H : Type} : List (Lit × DataW H) → Nat
  | [] => 0
  | x :: r => uptoBulkEntry x + uptoBulkEntries r
def uptoBulkEntry {H : Type} : Lit × DataW H → Nat
  | (.string bytes, d) => bytes.length + uptoBulk d + 1
  | (_, d) => uptoBulk d + 1
 end
def uptoSmall : (H : Type) → List (DataW H) → Bool := fun _ ds => decide (uptoBulkAll ds ≤ 1048576)
def OpenSpec.upto (s : _root_.Go.ChangeSpec) : _root_.Go.OpenSpec := { _root_.Go.OpenSpec.ofChange s with cond := some uptoSmall }

/-- 'laws.FnExactNewClub', WHERE WHAT IT READS IS OF BULK AT MOST 1048576: true; the input reads as it did. -/
def fnExactNewClubUptoRow : OpenClaim := { program := "ytmgfjelhgkihfaa", sum := "f3d5d251eac2203addc91aaee19799000cb223c673a16267b904f4a19e3cf19a", func := "loop.example/savingsclub/laws.FnExactNewClub", spec := "fnExactNewClub", apart := false, narrowed := true }
def FnExactNewClubUptoSaid : Prop := fnExactNewClubUptoRow.holds Try.pinned (OpenSpec.upto fnExactNewClubSpec)

/-- 'laws.FnExactMistakeOf', WHERE WHAT IT READS IS OF BULK AT MOST 1048576: true; the input reads as it did. -/
def fnExactMistakeOfUptoRow : OpenClaim := { program := "ytmgfjelhgkihfaa", sum := "f3d5d251eac2203addc91aaee19799000cb223c673a16267b904f4a19e3cf19a", func := "loop.example/savingsclub/laws.FnExactMistakeOf", spec := "fnExactMistakeOf", recurses := true, apart := false, narrowed := true }
def FnExactMistakeOfUptoSaid : Prop := fnExactMistakeOfUptoRow.holds Try.pinned (OpenSpec.upto fnExactMistakeOfSpec)

/-- 'laws.FnValidShares', WHERE WHAT IT READS IS OF BULK AT MOST 1048576: true; the input reads as it did. -/
def fnValidSharesUptoRow : OpenClaim := { program := "ytmgfjelhgkihfaa", sum := "f3d5d251eac2203addc91aaee19799000cb223c673a16267b904f4a19e3cf19a", func := "loop.example/savingsclub/laws.FnValidShares", spec := "fnValidShares", apart := false, narrowed := true }
def FnValidSharesUptoSaid : Prop := fnValidSharesUptoRow.holds Try.pinned (OpenSpec.upto fnValidSharesSpec)

/-- 'laws.FnVested', WHERE WHAT IT READS IS OF BULK AT MOST 1048576: true; the input reads as it did. -/
def fnVestedUptoRow : OpenClaim := { program := "ytmgfjelhgkihfaa", sum := "f3d5d251eac2203addc91aaee19799000cb223c673a16267b904f4a19e3cf19a", func := "loop.example/savingsclub/laws.FnVested", spec := "fnVested", named := ["math/bits.divideError", "math/bits.overflowError"], apart := false, narrowed := true }
def FnVestedUptoSaid : Prop := fnVestedUptoRow.holds Try.pinned (OpenSpec.upto fnVestedSpec)

/-- 'laws.FnLeastPayOne', WHERE WHAT IT READS IS OF BULK AT MOST 1048576: true; the input reads as it did. -/
def fnLeastPayOneUptoRow : OpenClaim := { program := "ytmgfjelhgkihfaa", sum := "f3d5d251eac2203addc91aaee19799000cb223c673a16267b904f4a19e3cf19a", func := "loop.example/savingsclub/laws.FnLeastPayOne", spec := "fnLeastPayOne", apart := false, narrowed := true }
def FnLeastPayOneUptoSaid : Prop := fnLeastPayOneUptoRow.holds Try.pinned (OpenSpec.upto fnLeastPayOneSpec)

/-- 'laws.FnValidLoans', WHERE WHAT IT READS IS OF BULK AT MOST 1048576: true; the input reads as it did. -/
def fnValidLoansUptoRow : OpenClaim := { program := "ytmgfjelhgkihfaa", sum := "f3d5d251eac2203addc91aaee19799000cb223c673a16267b904f4a19e3cf19a", func := "loop.example/savingsclub/laws.FnValidLoans", spec := "fnValidLoans", apart := false, narrowed := true }
def FnValidLoansUptoSaid : Prop := fnValidLoansUptoRow.holds Try.pinned (OpenSpec.upto fnValidLoansSpec)

/-- 'laws.FnExactVetoes', WHERE WHAT IT READS IS OF BULK AT MOST 1048576: true; the input reads as it did. -/
def fnExactVetoesUptoRow : OpenClaim := { program := "ytmgfjelhgkihfaa", sum := "f3d5d251eac2203addc91aaee19799000cb223c673a16267b904f4a19e3cf19a", func := "loop.example/savingsclub/laws.FnExactVetoes", spec := "fnExactVetoes", apart := false, narrowed := true }
def FnExactVetoesUptoSaid : Prop := fnExactVetoesUptoRow.holds Try.pinned (OpenSpec.upto fnExactVetoesSpec)

/-- 'laws.FnDualBody', WHERE WHAT IT READS IS OF BULK AT MOST 1048576: true; the input reads as it did. -/
def fnDualBodyUptoRow : OpenClaim := { program := "ytmgfjelhgkihfaa", sum := "f3d5d251eac2203addc91aaee19799000cb223c673a16267b904f4a19e3cf19a", func := "loop.example/savingsclub/laws.FnDualBody", spec := "fnDualBody", apart := false, narrowed := true }
def FnDualBodyUptoSaid : Prop := fnDualBodyUptoRow.holds Try.pinned (OpenSpec.upto fnDualBodySpec)

/-- 'laws.FnExactHonest', WHERE WHAT IT READS IS OF BULK AT MOST 1048576: true; the input reads as it did. -/
def fnExactHonestUptoRow : OpenClaim := { program := "ytmgfjelhgkihfaa", sum := "f3d5d251eac2203addc91aaee19799000cb223c673a16267b904f4a19e3cf19a", func := "loop.example/savingsclub/laws.FnExactHonest", spec := "fnExactHonest", apart := false, narrowed := true }
def FnExactHonestUptoSaid : Prop := fnExactHonestUptoRow.holds Try.pinned (OpenSpec.upto fnExactHonestSpec)

/-- 'laws.FnShortClass', WHERE WHAT IT READS IS OF BULK AT MOST 1048576: true; the input reads as it did. -/
def fnShortClassUptoRow : OpenClaim := { program := "ytmgfjelhgkihfaa", sum := "f3d5d251eac2203addc91aaee19799000cb223c673a16267b904f4a19e3cf19a", func := "loop.example/savingsclub/laws.FnShortClass", spec := "fnShortClass", apart := false, narrowed := true }
def FnShortClassUptoSaid : Prop := fnShortClassUptoRow.holds Try.pinned (OpenSpec.upto fnShortClassSpec)

/-- 'laws.FnFirstBelow', WHERE WHAT IT READS IS OF BULK AT MOST 1048576: true; the input reads as it did. -/
def fnFirstBelowUptoRow : OpenClaim := { program := "ytmgfjelhgkihfaa", sum := "f3d5d251eac2203addc91aaee19799000cb223c673a16267b904f4a19e3cf19a", func := "loop.example/savingsclub/laws.FnFirstBelow", spec := "fnFirstBelow", apart := false, narrowed := true }
def FnFirstBelowUptoSaid : Prop := fnFirstBelowUptoRow.holds Try.pinned (OpenSpec.upto fnFirstBelowSpec)

/-- 'laws.FnUndo', WHERE WHAT IT READS IS OF BULK AT MOST 1048576: true; the input reads as it did. -/
def fnUndoUptoRow : OpenClaim := { program := "ytmgfjelhgkihfaa", sum := "f3d5d251eac2203addc91aaee19799000cb223c673a16267b904f4a19e3cf19a", func := "loop.example/savingsclub/laws.FnUndo", spec := "fnUndo", unfollowed := true, recurses := true, apart := false, narrowed := true }
def FnUndoUptoSaid : Prop := fnUndoUptoRow.holds Try.pinned (OpenSpec.upto fnUndoSpec)

end Rows
end Go.Proofs.Ytmgfjelhgkihfaa
