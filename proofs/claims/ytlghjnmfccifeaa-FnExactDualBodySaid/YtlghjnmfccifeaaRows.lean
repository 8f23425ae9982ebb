/-
  No cell of these rows narrows 'for every input' (looked for: loops, veiled, ifaces, maps, wideKeys, modest, calm, conditions, laid).
  DERIVED. THE GIVEN ROWS OF THIS SEAT. 7 by the template 'for every input the law returns true; each argument reads behind the call as it read before'; 0 by the template 'total and deterministic' (their statements: YtlghjnmfccifeaaTotals.lean).
  GIVEN WITH THE SEED: the statements are not yours to turn. If you find one false, say at which input.
  Laid BY PROGRAM, IN A SANDBOX (cutbox-rows.mjs): the forced cells as the released guide's own fill.sh prints them over the translation 4153c647171dc227… (all of the seat's roots in one cut). By AI agents, Wed Nov 11 2026. No macro, syntax, notation, axiom, sorry.
-/
import Derived.Test.YtlghjnmfccifeaaChecked
import GoSem.Claim
import GoSem.ClaimJoined
import GoSem.ClaimMapViews
import Derived.JoinedTies
import Derived.KernelRfl
namespace Go.Proofs.Ytlghjnmfccifeaa
/- THE CELL 'sum', in the pinned program and in every row, IS THE sha256 OF THE DUMP (.gsa) THAT YtlghjnmfccifeaaProg.lean LOADS. Nothing in Lean hashes anything: it is a label: what it is worth is what the hold of that sum in a sandbox is worth. -/
noncomputable def Try.pinned : Pinned := { name := "ytlghjnmfccifeaa", sum := "4153c647171dc2279c48273ac8f3c30e9fc796c077ebc367f58a941748866e5e", checked := Try.checked }
namespace Rows
def none {H : Type} : Left H := { results := [], args := [] }

/-- 'laws.FnExactVetoes': WHATEVER THE INPUT: true; the input reads as it did. -/
def fnExactVetoesSpec : ChangeSpec := { name := "fnExactVetoes", fn := fun _ => fun
  | [d] => { results := [.lit (.bool true)], args := [d] }
  | _ => none }
def fnExactVetoesRow : OpenClaim := { program := "ytlghjnmfccifeaa", sum := "4153c647171dc2279c48273ac8f3c30e9fc796c077ebc367f58a941748866e5e", func := "loop.example/savingsclub/laws.FnExactVetoes", spec := "fnExactVetoes", apart := false }
def FnExactVetoesSaid : Prop := fnExactVetoesRow.holds Try.pinned (OpenSpec.ofChange fnExactVetoesSpec)

/-- ITS FALSE NEIGHBOUR: 'it returns false'. Refute it at one input. -/
def fnExactVetoesWrong : ChangeSpec := { name := "fnExactVetoes", fn := fun _ => fun
  | [d] => { results := [.lit (.bool false)], args := [d] }
  | _ => none }
def FnExactVetoesWrongFalsely : Prop := fnExactVetoesRow.holds Try.pinned (OpenSpec.ofChange fnExactVetoesWrong)

/-- 'laws.FnValidLoans': WHATEVER THE INPUT: true; the input reads as it did. -/
def fnValidLoansSpec : ChangeSpec := { name := "fnValidLoans", fn := fun _ => fun
  | [d] => { results := [.lit (.bool true)], args := [d] }
  | _ => none }
def fnValidLoansRow : OpenClaim := { program := "ytlghjnmfccifeaa", sum := "4153c647171dc2279c48273ac8f3c30e9fc796c077ebc367f58a941748866e5e", func := "loop.example/savingsclub/laws.FnValidLoans", spec := "fnValidLoans", apart := false }
def FnValidLoansSaid : Prop := fnValidLoansRow.holds Try.pinned (OpenSpec.ofChange fnValidLoansSpec)

/-- ITS FALSE NEIGHBOUR: 'it returns false'. Refute it at one input. -/
def fnValidLoansWrong : ChangeSpec := { name := "fnValidLoans", fn := fun _ => fun
  | [d] => { results := [.lit (.bool false)], args := [d] }
  | _ => none }
def FnValidLoansWrongFalsely : Prop := fnValidLoansRow.holds Try.pinned (OpenSpec.ofChange fnValidLoansWrong)

/-- 'laws.FnTallyOf': WHATEVER THE INPUT: true; the input reads as it did. -/
def fnTallyOfSpec : ChangeSpec := { name := "fnTallyOf", fn := fun _ => fun
  | [d] => { results := [.lit (.bool true)], args := [d] }
  | _ => none }
def fnTallyOfRow : OpenClaim := { program := "ytlghjnmfccifeaa", sum := "4153c647171dc2279c48273ac8f3c30e9fc796c077ebc367f58a941748866e5e", func := "loop.example/savingsclub/laws.FnTallyOf", spec := "fnTallyOf", apart := false }
def FnTallyOfSaid : Prop := fnTallyOfRow.holds Try.pinned (OpenSpec.ofChange fnTallyOfSpec)

/-- ITS FALSE NEIGHBOUR: 'it returns false'. Refute it at one input. -/
def fnTallyOfWrong : ChangeSpec := { name := "fnTallyOf", fn := fun _ => fun
  | [d] => { results := [.lit (.bool false)], args := [d] }
  | _ => none }
def FnTallyOfWrongFalsely : Prop := fnTallyOfRow.holds Try.pinned (OpenSpec.ofChange fnTallyOfWrong)

/-- 'laws.FnExactSwapTurns': WHATEVER THE INPUT: true; the input reads as it did. -/
def fnExactSwapTurnsSpec : ChangeSpec := { name := "fnExactSwapTurns", fn := fun _ => fun
  | [d1, d2, d3] => { results := [.lit (.bool true)], args := [d1, d2, d3] }
  | _ => none }
def fnExactSwapTurnsRow : OpenClaim := { program := "ytlghjnmfccifeaa", sum := "4153c647171dc2279c48273ac8f3c30e9fc796c077ebc367f58a941748866e5e", func := "loop.example/savingsclub/laws.FnExactSwapTurns", spec := "fnExactSwapTurns", apart := false }
def FnExactSwapTurnsSaid : Prop := fnExactSwapTurnsRow.holds Try.pinned (OpenSpec.ofChange fnExactSwapTurnsSpec)

/-- ITS FALSE NEIGHBOUR: 'it returns false'. Refute it at one input. -/
def fnExactSwapTurnsWrong : ChangeSpec := { name := "fnExactSwapTurns", fn := fun _ => fun
  | [d1, d2, d3] => { results := [.lit (.bool false)], args := [d1, d2, d3] }
  | _ => none }
def FnExactSwapTurnsWrongFalsely : Prop := fnExactSwapTurnsRow.holds Try.pinned (OpenSpec.ofChange fnExactSwapTurnsWrong)

/-- 'laws.FnSwapTurns': WHATEVER THE INPUT: true; the input reads as it did. -/
def fnSwapTurnsSpec : ChangeSpec := { name := "fnSwapTurns", fn := fun _ => fun
  | [d] => { results := [.lit (.bool true)], args := [d] }
  | _ => none }
def fnSwapTurnsRow : OpenClaim := { program := "ytlghjnmfccifeaa", sum := "4153c647171dc2279c48273ac8f3c30e9fc796c077ebc367f58a941748866e5e", func := "loop.example/savingsclub/laws.FnSwapTurns", spec := "fnSwapTurns", apart := false }
def FnSwapTurnsSaid : Prop := fnSwapTurnsRow.holds Try.pinned (OpenSpec.ofChange fnSwapTurnsSpec)

/-- ITS FALSE NEIGHBOUR: 'it returns false'. Refute it at one input. -/
def fnSwapTurnsWrong : ChangeSpec := { name := "fnSwapTurns", fn := fun _ => fun
  | [d] => { results := [.lit (.bool false)], args := [d] }
  | _ => none }
def FnSwapTurnsWrongFalsely : Prop := fnSwapTurnsRow.holds Try.pinned (OpenSpec.ofChange fnSwapTurnsWrong)

/-- 'laws.FnDualBody': WHATEVER THE INPUT: true; the input reads as it did. -/
def fnDualBodySpec : ChangeSpec := { name := "fnDualBody", fn := fun _ => fun
  | [d] => { results := [.lit (.bool true)], args := [d] }
  | _ => none }
def fnDualBodyRow : OpenClaim := { program := "ytlghjnmfccifeaa", sum := "4153c647171dc2279c48273ac8f3c30e9fc796c077ebc367f58a941748866e5e", func := "loop.example/savingsclub/laws.FnDualBody", spec := "fnDualBody", apart := false }
def FnDualBodySaid : Prop := fnDualBodyRow.holds Try.pinned (OpenSpec.ofChange fnDualBodySpec)

/-- ITS FALSE NEIGHBOUR: 'it returns false'. Refute it at one input. -/
def fnDualBodyWrong : ChangeSpec := { name := "fnDualBody", fn := fun _ => fun
  | [d] => { results := [.lit (.bool false)], args := [d] }
  | _ => none }
def FnDualBodyWrongFalsely : Prop := fnDualBodyRow.holds Try.pinned (OpenSpec.ofChange fnDualBodyWrong)

/-- 'laws.FnExactDualBody': WHATEVER THE INPUT: true; the input reads as it did. -/
def fnExactDualBodySpec : ChangeSpec := { name := "fnExactDualBody", fn := fun _ => fun
  | [d] => { results := [.lit (.bool true)], args := [d] }
  | _ => none }
def fnExactDualBodyRow : OpenClaim := { program := "ytlghjnmfccifeaa", sum := "4153c647171dc2279c48273ac8f3c30e9fc796c077ebc367f58a941748866e5e", func := "loop.example/savingsclub/laws.FnExactDualBody", spec := "fnExactDualBody", apart := false }
def FnExactDualBodySaid : Prop := fnExactDualBodyRow.holds Try.pinned (OpenSpec.ofChange fnExactDualBodySpec)

/-- ITS FALSE NEIGHBOUR: 'it returns false'. Refute it at one input. -/
def fnExactDualBodyWrong : ChangeSpec := { name := "fnExactDualBody", fn := fun _ => fun
  | [d] => { results := [.lit (.bool false)], args := [d] }
  | _ => none }
def FnExactDualBodyWrongFalsely : Prop := fnExactDualBodyRow.holds Try.pinned (OpenSpec.ofChange fnExactDualBodyWrong)

/- THE SECOND FORM. 'bulk': how many values and letters a reading holds, each counted each time it is reached (what is shared counts as often as it is met; a slice's spare places count too). A statement '..UptoSaid' is the law's where the arguments, and the package variables that the reading takes, are together of bulk at most 1048576: NARROWER than '..Said'. Prove '..Said' where nothing that the law and all that it calls make is longer than what came in: it says more and counts as full. Else prove '..UptoSaid'. A law counts once. -/
mutual
def uptoBulk {H : Type} : DataW H → Nat
  | .lit (.string bytes) => bytes.length + 1
  | .lit _ => 1
  | .nil => 1
  | .ptr d => uptoBulk d + 1
  | .slice elems spare => uptoBulkAll elems + uptoBulkAll spare + 1
  | .agg parts => uptoBulkAll parts + 1
  | .iface _ d => uptoBulk d + 1
  | .map entries => uptoBulkEntries entries + 1
  | .held _ => 1
def uptoBulkAll {H : Type} : List (DataW H) → Nat
  | [] => 0
  | d :: r => uptoBulk d + uptoBulkAll r
def uptoBulkEntries {H : Type} : List (Lit × DataW H) → Nat
  | [] => 0
  | x :: r => uptoBulkEntry x + uptoBulkEntries r
def uptoBulkEntry {H : Type} : Lit × DataW H → Nat
  | (.string bytes, d) => bytes.length + uptoBulk d + 1
  | (_, d) => uptoBulk d + 1
 end
def uptoSmall : (H : Type) → List (DataW H) → Bool := fun _ ds => decide (uptoBulkAll ds ≤ 1048576)
def OpenSpec.upto (s : _root_.Go.ChangeSpec) : _root_.Go.OpenSpec := { _root_.Go.OpenSpec.ofChange s with cond := some uptoSmall }

/-- 'laws.FnExactVetoes', WHERE WHAT IT READS IS OF BULK AT MOST 1048576: true; the input reads as it did. -/
def fnExactVetoesUptoRow : OpenClaim := { program := "ytlghjnmfccifeaa", sum := "4153c647171dc2279c48273ac8f3c30e9fc796c077ebc367f58a941748866e5e", func := "loop.example/savingsclub/laws.FnExactVetoes", spec := "fnExactVetoes", apart := false, narrowed := true }
def FnExactVetoesUptoSaid : Prop := fnExactVetoesUptoRow.holds Try.pinned (OpenSpec.upto fnExactVetoesSpec)

/-- 'laws.FnValidLoans', WHERE WHAT IT READS IS OF BULK AT MOST 1048576: true; the input reads as it did. -/
def fnValidLoansUptoRow : OpenClaim := { program := "ytlghjnmfccifeaa", sum := "4153c647171dc2279c48273ac8f3c30e9fc796c077ebc367f58a941748866e5e", func := "loop.example/savingsclub/laws.FnValidLoans", spec := "fnValidLoans", apart := false, narrowed := true }
def FnValidLoansUptoSaid : Prop := fnValidLoansUptoRow.holds Try.pinned (OpenSpec.upto fnValidLoansSpec)

/-- 'laws.FnTallyOf', WHERE WHAT IT READS IS OF BULK AT MOST 1048576: true; the input reads as it did. -/
def fnTallyOfUptoRow : OpenClaim := { program := "ytlghjnmfccifeaa", sum := "4153c647171dc2279c48273ac8f3c30e9fc796c077ebc367f58a941748866e5e", func := "loop.example/savingsclub/laws.FnTallyOf", spec := "fnTallyOf", apart := false, narrowed := true }
def FnTallyOfUptoSaid : Prop := fnTallyOfUptoRow.holds Try.pinned (OpenSpec.upto fnTallyOfSpec)

/-- 'laws.FnExactSwapTurns', WHERE WHAT IT READS IS OF BULK AT MOST 1048576: true; the input reads as it did. -/
def fnExactSwapTurnsUptoRow : OpenClaim := { program := "ytlghjnmfccifeaa", sum := "4153c647171dc2279c48273ac8f3c30e9fc796c077ebc367f58a941748866e5e", func := "loop.example/savingsclub/laws.FnExactSwapTurns", spec := "fnExactSwapTurns", apart := false, narrowed := true }
def FnExactSwapTurnsUptoSaid : Prop := fnExactSwapTurnsUptoRow.holds Try.pinned (OpenSpec.upto fnExactSwapTurnsSpec)

/-- 'laws.FnSwapTurns', WHERE WHAT IT READS IS OF BULK AT MOST 1048576: true; the input reads as it did. -/
def fnSwapTurnsUptoRow : OpenClaim := { program := "ytlghjnmfccifeaa", sum := "4153c647171dc2279c48273ac8f3c30e9fc796c077ebc367f58a941748866e5e", func := "loop.example/savingsclub/laws.FnSwapTurns", spec := "fnSwapTurns", apart := false, narrowed := true }
def FnSwapTurnsUptoSaid : Prop := fnSwapTurnsUptoRow.holds Try.pinned (OpenSpec.upto fnSwapTurnsSpec)

/-- 'laws.FnDualBody', WHERE WHAT IT READS IS OF BULK AT MOST 1048576: true; the input reads as it did. -/
def fnDualBodyUptoRow : OpenClaim := { program := "ytlghjnmfccifeaa", sum := "4153c647171dc2279c48273ac8f3c30e9fc796c077ebc367f58a941748866e5e", func := "loop.example/savingsclub/laws.FnDualBody", spec := "fnDualBody", apart := false, narrowed := true }
def FnDualBodyUptoSaid : Prop := fnDualBodyUptoRow.holds Try.pinned (OpenSpec.upto fnDualBodySpec)

/-- 'laws.FnExactDualBody', WHERE WHAT IT READS IS OF BULK AT MOST 1048576: true; the input reads as it did. -/
def fnExactDualBodyUptoRow : OpenClaim := { program := "ytlghjnmfccifeaa", sum := "4153c647171dc2279c48273ac8f3c30e9fc796c077ebc367f58a941748866e5e", func := "loop.example/savingsclub/laws.FnExactDualBody", spec := "fnExactDualBody", apart := false, narrowed := true }
def FnExactDualBodyUptoSaid : Prop := fnExactDualBodyUptoRow.holds Try.pinned (OpenSpec.upto fnExactDualBodySpec)

end Rows
end Go.Proofs.Ytlghjnmfccifeaa
