/-
  No cell of these rows narrows 'for every input' (looked for: loops, veiled, ifaces, maps, wideKeys, modest, calm, conditions, laid).
  DERIVED. THE GIVEN ROWS OF THIS SEAT. 6 by the template 'for every input the law returns true; each argument reads behind the call as it read before'; 0 by the template 'total and deterministic' (their statements: YtpbhpkgilkfckaaTotals.lean).
  GIVEN WITH THE SEED: the statements are not yours to turn. If you find one false, say at which input.
  Laid BY PROGRAM, IN A SANDBOX (cutbox-rows.mjs): the forced cells as the released guide's own fill.sh prints them over the translation 7034d4c475da309a… (all of the seat's roots in one cut). By AI agents, Wed Nov 11 2026. No macro, syntax, notation, axiom, sorry.
-/
import Derived.Test.YtpbhpkgilkfckaaChecked
import GoSem.Claim
import GoSem.ClaimJoined
import GoSem.ClaimMapViews
import Derived.JoinedTies
import Derived.KernelRfl
namespace Go.Proofs.Ytpbhpkgilkfckaa
/- THE CELL 'sum', in the pinned program and in every row, IS THE sha256 OF THE DUMP (.gsa) THAT YtpbhpkgilkfckaaProg.lean LOADS. Nothing in Lean hashes anything: it is a label: what it is worth is what the hold of that sum in a sandbox is worth. -/
noncomputable def Try.pinned : Pinned := { name := "ytpbhpkgilkfckaa", sum := "7034d4c475da309a782a7422cb11be43dc909d4b3490e513b050f0497f210a7b", checked := Try.checked }
namespace Rows
def none {H : Type} : Left H := { results := [], args := [] }

/-- 'laws.FnInterestOf': WHATEVER THE INPUT: true; the input reads as it did. -/
def fnInterestOfSpec : ChangeSpec := { name := "fnInterestOf", fn := fun _ => fun
  | [d] => { results := [.lit (.bool true)], args := [d] }
  | _ => none }
def fnInterestOfRow : OpenClaim := { program := "ytpbhpkgilkfckaa", sum := "7034d4c475da309a782a7422cb11be43dc909d4b3490e513b050f0497f210a7b", func := "loop.example/savingsclub/laws.FnInterestOf", spec := "fnInterestOf", apart := false }
def FnInterestOfSaid : Prop := fnInterestOfRow.holds Try.pinned (OpenSpec.ofChange fnInterestOfSpec)

/-- ITS FALSE NEIGHBOUR: 'it returns false'. Refute it at one input. -/
def fnInterestOfWrong : ChangeSpec := { name := "fnInterestOf", fn := fun _ => fun
  | [d] => { results := [.lit (.bool false)], args := [d] }
  | _ => none }
def FnInterestOfWrongFalsely : Prop := fnInterestOfRow.holds Try.pinned (OpenSpec.ofChange fnInterestOfWrong)

/-- 'laws.FnCastOut': WHATEVER THE INPUT: true; the input reads as it did. -/
def fnCastOutSpec : ChangeSpec := { name := "fnCastOut", fn := fun _ => fun
  | [d] => { results := [.lit (.bool true)], args := [d] }
  | _ => none }
def fnCastOutRow : OpenClaim := { program := "ytpbhpkgilkfckaa", sum := "7034d4c475da309a782a7422cb11be43dc909d4b3490e513b050f0497f210a7b", func := "loop.example/savingsclub/laws.FnCastOut", spec := "fnCastOut", apart := false }
def FnCastOutSaid : Prop := fnCastOutRow.holds Try.pinned (OpenSpec.ofChange fnCastOutSpec)

/-- ITS FALSE NEIGHBOUR: 'it returns false'. Refute it at one input. -/
def fnCastOutWrong : ChangeSpec := { name := "fnCastOut", fn := fun _ => fun
  | [d] => { results := [.lit (.bool false)], args := [d] }
  | _ => none }
def FnCastOutWrongFalsely : Prop := fnCastOutRow.holds Try.pinned (OpenSpec.ofChange fnCastOutWrong)

/-- 'laws.FnExactMistakeOf': WHATEVER THE INPUT: true; the input reads as it did. -/
def fnExactMistakeOfSpec : ChangeSpec := { name := "fnExactMistakeOf", fn := fun _ => fun
  | [d1, d2] => { results := [.lit (.bool true)], args := [d1, d2] }
  | _ => none }
def fnExactMistakeOfRow : OpenClaim := { program := "ytpbhpkgilkfckaa", sum := "7034d4c475da309a782a7422cb11be43dc909d4b3490e513b050f0497f210a7b", func := "loop.example/savingsclub/laws.FnExactMistakeOf", spec := "fnExactMistakeOf", recurses := true, apart := false }
def FnExactMistakeOfSaid : Prop := fnExactMistakeOfRow.holds Try.pinned (OpenSpec.ofChange fnExactMistakeOfSpec)

/-- ITS FALSE NEIGHBOUR: 'it returns false'. Refute it at one input. -/
def fnExactMistakeOfWrong : ChangeSpec := { name := "fnExactMistakeOf", fn := fun _ => fun
  | [d1, d2] => { results := [.lit (.bool false)], args := [d1, d2] }
  | _ => none }
def FnExactMistakeOfWrongFalsely : Prop := fnExactMistakeOfRow.holds Try.pinned (OpenSpec.ofChange fnExactMistakeOfWrong)

/-- 'laws.FnLeastPayOne': WHATEVER THE INPUT: true; the input reads as it did. -/
def fnLeastPayOneSpec : ChangeSpec := { name := "fnLeastPayOne", fn := fun _ => fun
  | [d] => { results := [.lit (.bool true)], args := [d] }
  | _ => none }
def fnLeastPayOneRow : OpenClaim := { program := "ytpbhpkgilkfckaa", sum := "7034d4c475da309a782a7422cb11be43dc909d4b3490e513b050f0497f210a7b", func := "loop.example/savingsclub/laws.FnLeastPayOne", spec := "fnLeastPayOne", apart := false }
def FnLeastPayOneSaid : Prop := fnLeastPayOneRow.holds Try.pinned (OpenSpec.ofChange fnLeastPayOneSpec)

/-- ITS FALSE NEIGHBOUR: 'it returns false'. Refute it at one input. -/
def fnLeastPayOneWrong : ChangeSpec := { name := "fnLeastPayOne", fn := fun _ => fun
  | [d] => { results := [.lit (.bool false)], args := [d] }
  | _ => none }
def FnLeastPayOneWrongFalsely : Prop := fnLeastPayOneRow.holds Try.pinned (OpenSpec.ofChange fnLeastPayOneWrong)

/-- 'laws.FnShortClass': WHATEVER THE INPUT: true; the input reads as it did. -/
def fnShortClassSpec : ChangeSpec := { name := "fnShortClass", fn := fun _ => fun
  | [d] => { results := [.lit (.bool true)], args := [d] }
  | _ => none }
def fnShortClassRow : OpenClaim := { program := "ytpbhpkgilkfckaa", sum := "7034d4c475da309a782a7422cb11be43dc909d4b3490e513b050f0497f210a7b", func := "loop.example/savingsclub/laws.FnShortClass", spec := "fnShortClass", apart := false }
def FnShortClassSaid : Prop := fnShortClassRow.holds Try.pinned (OpenSpec.ofChange fnShortClassSpec)

/-- ITS FALSE NEIGHBOUR: 'it returns false'. Refute it at one input. -/
def fnShortClassWrong : ChangeSpec := { name := "fnShortClass", fn := fun _ => fun
  | [d] => { results := [.lit (.bool false)], args := [d] }
  | _ => none }
def FnShortClassWrongFalsely : Prop := fnShortClassRow.holds Try.pinned (OpenSpec.ofChange fnShortClassWrong)

/-- 'laws.FnExactShortClass': WHATEVER THE INPUT: true; the input reads as it did. -/
def fnExactShortClassSpec : ChangeSpec := { name := "fnExactShortClass", fn := fun _ => fun
  | [d1, d2] => { results := [.lit (.bool true)], args := [d1, d2] }
  | _ => none }
def fnExactShortClassRow : OpenClaim := { program := "ytpbhpkgilkfckaa", sum := "7034d4c475da309a782a7422cb11be43dc909d4b3490e513b050f0497f210a7b", func := "loop.example/savingsclub/laws.FnExactShortClass", spec := "fnExactShortClass", apart := false }
def FnExactShortClassSaid : Prop := fnExactShortClassRow.holds Try.pinned (OpenSpec.ofChange fnExactShortClassSpec)

/-- ITS FALSE NEIGHBOUR: 'it returns false'. Refute it at one input. -/
def fnExactShortClassWrong : ChangeSpec := { name := "fnExactShortClass", fn := fun _ => fun
  | [d1, d2] => { results := [.lit (.bool false)], args := [d1, d2] }
  | _ => none }
def FnExactShortClassWrongFalsely : Prop := fnExactShortClassRow.holds Try.pinned (OpenSpec.ofChange fnExactShortClassWrong)

/- THE SECOND FORM. 'bulk': how many values and letters a reading holds, each counted each time it is reached (what is shared counts as often as it is met; a slice's spare places count too). A statement '..UptoSaid' is the law's where the arguments, and the package variables that the reading takes, are together of bulk at most 1048576: NARROWER than '..Said'. Prove '..Said' where nothing that the law and all that it calls make is longer than what came in: it says more and counts as full. Else prove '..UptoSaid'. A law counts once. -/
mutual
def uptoBulk {H : Type} : DataW H → Nat
  | .lit (.string bytes) => bytes.length + 1
  | .lit _ => 1
  | .nil => 1
  | .ptr d => uptoBulk d + 1
  | .slice elems spare => uptoBulkAll elems + uptoBulkAll spare + 1
  | .agg parts => uptoBulkAll parts + 1
  | .iface _ d => uptoBulk d + 1
  | .map entries => uptoBulkEntries entries + 1
  | .held _ => 1
def uptoBulkAll {H : Type} : List (DataW H) → Nat
  | [] => 0
  | d :: r => uptoBulk d + uptoBulkAll r
def uptoBulkEntries {H : Type} : List (Lit × DataW H) → Nat
  | [] => 0
  | x :: r => uptoBulkEntry x + uptoBulkEntries r
def uptoBulkEntry {H : Type} : Lit × DataW H → Nat
  | (.string bytes, d) => bytes.length + uptoBulk d + 1
  | (_, d) => uptoBulk d + 1
 end
def uptoSmall : (H : Type) → List (DataW H) → Bool := fun _ ds => decide (uptoBulkAll ds ≤ 1048576)
def OpenSpec.upto (s : _root_.Go.ChangeSpec) : _root_.Go.OpenSpec := { _root_.Go.OpenSpec.ofChange s with cond := some uptoSmall }

/-- 'laws.FnInterestOf', WHERE WHAT IT READS IS OF BULK AT MOST 1048576: true; the input reads as it did. -/
def fnInterestOfUptoRow : OpenClaim := { program := "ytpbhpkgilkfckaa", sum := "7034d4c475da309a782a7422cb11be43dc909d4b3490e513b050f0497f210a7b", func := "loop.example/savingsclub/laws.FnInterestOf", spec := "fnInterestOf", apart := false, narrowed := true }
def FnInterestOfUptoSaid : Prop := fnInterestOfUptoRow.holds Try.pinned (OpenSpec.upto fnInterestOfSpec)

/-- 'laws.FnCastOut', WHERE WHAT IT READS IS OF BULK AT MOST 1048576: true; the input reads as it did. -/
def fnCastOutUptoRow : OpenClaim := { program := "ytpbhpkgilkfckaa", sum := "7034d4c475da309a782a7422cb11be43dc909d4b3490e513b050f0497f210a7b", func := "loop.example/savingsclub/laws.FnCastOut", spec := "fnCastOut", apart := false, narrowed := true }
def FnCastOutUptoSaid : Prop := fnCastOutUptoRow.holds Try.pinned (OpenSpec.upto fnCastOutSpec)

/-- 'laws.FnExactMistakeOf', WHERE WHAT IT READS IS OF BULK AT MOST 1048576: true; the input reads as it did. -/
def fnExactMistakeOfUptoRow : OpenClaim := { program := "ytpbhpkgilkfckaa", sum := "7034d4c475da309a782a7422cb11be43dc909d4b3490e513b050f0497f210a7b", func := "loop.example/savingsclub/laws.FnExactMistakeOf", spec := "fnExactMistakeOf", recurses := true, apart := false, narrowed := true }
def FnExactMistakeOfUptoSaid : Prop := fnExactMistakeOfUptoRow.holds Try.pinned (OpenSpec.upto fnExactMistakeOfSpec)

/-- 'laws.FnLeastPayOne', WHERE WHAT IT READS IS OF BULK AT MOST 1048576: true; the input reads as it did. -/
def fnLeastPayOneUptoRow : OpenClaim := { program := "ytpbhpkgilkfckaa", sum := "7034d4c475da309a782a7422cb11be43dc909d4b3490e513b050f0497f210a7b", func := "loop.example/savingsclub/laws.FnLeastPayOne", spec := "fnLeastPayOne", apart := false, narrowed := true }
def FnLeastPayOneUptoSaid : Prop := fnLeastPayOneUptoRow.holds Try.pinned (OpenSpec.upto fnLeastPayOneSpec)

/-- 'laws.FnShortClass', WHERE WHAT IT READS IS OF BULK AT MOST 1048576: true; the input reads as it did. -/
def fnShortClassUptoRow : OpenClaim := { program := "ytpbhpkgilkfckaa", sum := "7034d4c475da309a782a7422cb11be43dc909d4b3490e513b050f0497f210a7b", func := "loop.example/savingsclub/laws.FnShortClass", spec := "fnShortClass", apart := false, narrowed := true }
def FnShortClassUptoSaid : Prop := fnShortClassUptoRow.holds Try.pinned (OpenSpec.upto fnShortClassSpec)

/-- 'laws.FnExactShortClass', WHERE WHAT IT READS IS OF BULK AT MOST 1048576: true; the input reads as it did. -/
def fnExactShortClassUptoRow : OpenClaim := { program := "ytpbhpkgilkfckaa", sum := "7034d4c475da309a782a7422cb11be43dc909d4b3490e513b050f0497f210a7b", func := "loop.example/savingsclub/laws.FnExactShortClass", spec := "fnExactShortClass", apart := false, narrowed := true }
def FnExactShortClassUptoSaid : Prop := fnExactShortClassUptoRow.holds Try.pinned (OpenSpec.upto fnExactShortClassSpec)

end Rows
end Go.Proofs.Ytpbhpkgilkfckaa
