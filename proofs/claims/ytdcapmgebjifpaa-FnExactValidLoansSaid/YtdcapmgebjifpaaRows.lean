/-
  NARROWER THAN 'FOR EVERY INPUT', by the rows' own cells (each row's printed sentence says how): FnExactValidLock: loops.
  DERIVED. THE GIVEN ROWS OF THIS SEAT. 12 by the template 'for every input the law returns true; each argument reads behind the call as it read before'; 0 by the template 'total and deterministic' (their statements: YtdcapmgebjifpaaTotals.lean).
  GIVEN WITH THE SEED: the statements are not yours to turn. If you find one false, say at which input.
  Laid BY PROGRAM, IN A SANDBOX (cutbox-rows.mjs): the forced cells as the released guide's own fill.sh prints them over the translation 1523aa8c66b27cca… (all of the seat's roots in one cut). By AI agents, Wed Nov 11 2026. No macro, syntax, notation, axiom, sorry.
-/
import Derived.Test.YtdcapmgebjifpaaChecked
import GoSem.Claim
import GoSem.ClaimJoined
import GoSem.ClaimMapViews
import Derived.JoinedTies
import Derived.KernelRfl
namespace Go.Proofs.Ytdcapmgebjifpaa
/- THE CELL 'sum', in the pinned program and in every row, IS THE sha256 OF THE DUMP (.gsa) THAT YtdcapmgebjifpaaProg.lean LOADS. Nothing in Lean hashes anything: it is a label: what it is worth is what the hold of that sum in a sandbox is worth. -/
noncomputable def Try.pinned : Pinned := { name := "ytdcapmgebjifpaa", sum := "1523aa8c66b27cca6370f54b0ee6c167b63293991dcad156bab120af88b55a66", checked := Try.checked }
namespace Rows
def none {H : Type} : Left H := { results := [], args := [] }

/-- 'laws.FnExactValidLoans': WHATEVER THE INPUT: true; the input reads as it did. -/
def fnExactValidLoansSpec : ChangeSpec := { name := "fnExactValidLoans", fn := fun _ => fun
  | [d1, d2] => { results := [.lit (.bool true)], args := [d1, d2] }
  | _ => none }
def fnExactValidLoansRow : OpenClaim := { program := "ytdcapmgebjifpaa", sum := "1523aa8c66b27cca6370f54b0ee6c167b63293991dcad156bab120af88b55a66", func := "loop.example/savingsclub/laws.FnExactValidLoans", spec := "fnExactValidLoans", apart := false }
def FnExactValidLoansSaid : Prop := fnExactValidLoansRow.holds Try.pinned (OpenSpec.ofChange fnExactValidLoansSpec)

/-- ITS FALSE NEIGHBOUR: 'it returns false'. Refute it at one input. -/
def fnExactValidLoansWrong : ChangeSpec := { name := "fnExactValidLoans", fn := fun _ => fun
  | [d1, d2] => { results := [.lit (.bool false)], args := [d1, d2] }
  | _ => none }
def FnExactValidLoansWrongFalsely : Prop := fnExactValidLoansRow.holds Try.pinned (OpenSpec.ofChange fnExactValidLoansWrong)

/-- 'laws.FnCastOut': WHATEVER THE INPUT: true; the input reads as it did. -/
def fnCastOutSpec : ChangeSpec := { name := "fnCastOut", fn := fun _ => fun
  | [d] => { results := [.lit (.bool true)], args := [d] }
  | _ => none }
def fnCastOutRow : OpenClaim := { program := "ytdcapmgebjifpaa", sum := "1523aa8c66b27cca6370f54b0ee6c167b63293991dcad156bab120af88b55a66", func := "loop.example/savingsclub/laws.FnCastOut", spec := "fnCastOut", apart := false }
def FnCastOutSaid : Prop := fnCastOutRow.holds Try.pinned (OpenSpec.ofChange fnCastOutSpec)

/-- ITS FALSE NEIGHBOUR: 'it returns false'. Refute it at one input. -/
def fnCastOutWrong : ChangeSpec := { name := "fnCastOut", fn := fun _ => fun
  | [d] => { results := [.lit (.bool false)], args := [d] }
  | _ => none }
def FnCastOutWrongFalsely : Prop := fnCastOutRow.holds Try.pinned (OpenSpec.ofChange fnCastOutWrong)

/-- 'laws.FnValidRanks': WHATEVER THE INPUT: true; the input reads as it did. -/
def fnValidRanksSpec : ChangeSpec := { name := "fnValidRanks", fn := fun _ => fun
  | [d] => { results := [.lit (.bool true)], args := [d] }
  | _ => none }
def fnValidRanksRow : OpenClaim := { program := "ytdcapmgebjifpaa", sum := "1523aa8c66b27cca6370f54b0ee6c167b63293991dcad156bab120af88b55a66", func := "loop.example/savingsclub/laws.FnValidRanks", spec := "fnValidRanks", apart := false }
def FnValidRanksSaid : Prop := fnValidRanksRow.holds Try.pinned (OpenSpec.ofChange fnValidRanksSpec)

/-- ITS FALSE NEIGHBOUR: 'it returns false'. Refute it at one input. -/
def fnValidRanksWrong : ChangeSpec := { name := "fnValidRanks", fn := fun _ => fun
  | [d] => { results := [.lit (.bool false)], args := [d] }
  | _ => none }
def FnValidRanksWrongFalsely : Prop := fnValidRanksRow.holds Try.pinned (OpenSpec.ofChange fnValidRanksWrong)

/-- 'laws.FnExactWinnerOf': WHATEVER THE INPUT: true; the input reads as it did. -/
def fnExactWinnerOfSpec : ChangeSpec := { name := "fnExactWinnerOf", fn := fun _ => fun
  | [d1, d2, d3] => { results := [.lit (.bool true)], args := [d1, d2, d3] }
  | _ => none }
def fnExactWinnerOfRow : OpenClaim := { program := "ytdcapmgebjifpaa", sum := "1523aa8c66b27cca6370f54b0ee6c167b63293991dcad156bab120af88b55a66", func := "loop.example/savingsclub/laws.FnExactWinnerOf", spec := "fnExactWinnerOf", apart := false }
def FnExactWinnerOfSaid : Prop := fnExactWinnerOfRow.holds Try.pinned (OpenSpec.ofChange fnExactWinnerOfSpec)

/-- ITS FALSE NEIGHBOUR: 'it returns false'. Refute it at one input. -/
def fnExactWinnerOfWrong : ChangeSpec := { name := "fnExactWinnerOf", fn := fun _ => fun
  | [d1, d2, d3] => { results := [.lit (.bool false)], args := [d1, d2, d3] }
  | _ => none }
def FnExactWinnerOfWrongFalsely : Prop := fnExactWinnerOfRow.holds Try.pinned (OpenSpec.ofChange fnExactWinnerOfWrong)

/-- 'laws.FnExactOwedAfter': WHATEVER THE INPUT: true; the input reads as it did. -/
def fnExactOwedAfterSpec : ChangeSpec := { name := "fnExactOwedAfter", fn := fun _ => fun
  | [d1, d2, d3] => { results := [.lit (.bool true)], args := [d1, d2, d3] }
  | _ => none }
def fnExactOwedAfterRow : OpenClaim := { program := "ytdcapmgebjifpaa", sum := "1523aa8c66b27cca6370f54b0ee6c167b63293991dcad156bab120af88b55a66", func := "loop.example/savingsclub/laws.FnExactOwedAfter", spec := "fnExactOwedAfter", apart := false }
def FnExactOwedAfterSaid : Prop := fnExactOwedAfterRow.holds Try.pinned (OpenSpec.ofChange fnExactOwedAfterSpec)

/-- ITS FALSE NEIGHBOUR: 'it returns false'. Refute it at one input. -/
def fnExactOwedAfterWrong : ChangeSpec := { name := "fnExactOwedAfter", fn := fun _ => fun
  | [d1, d2, d3] => { results := [.lit (.bool false)], args := [d1, d2, d3] }
  | _ => none }
def FnExactOwedAfterWrongFalsely : Prop := fnExactOwedAfterRow.holds Try.pinned (OpenSpec.ofChange fnExactOwedAfterWrong)

/-- 'laws.FnExactTurnover': WHATEVER THE INPUT: true; the input reads as it did. -/
def fnExactTurnoverSpec : ChangeSpec := { name := "fnExactTurnover", fn := fun _ => fun
  | [d1, d2] => { results := [.lit (.bool true)], args := [d1, d2] }
  | _ => none }
def fnExactTurnoverRow : OpenClaim := { program := "ytdcapmgebjifpaa", sum := "1523aa8c66b27cca6370f54b0ee6c167b63293991dcad156bab120af88b55a66", func := "loop.example/savingsclub/laws.FnExactTurnover", spec := "fnExactTurnover", apart := false }
def FnExactTurnoverSaid : Prop := fnExactTurnoverRow.holds Try.pinned (OpenSpec.ofChange fnExactTurnoverSpec)

/-- ITS FALSE NEIGHBOUR: 'it returns false'. Refute it at one input. -/
def fnExactTurnoverWrong : ChangeSpec := { name := "fnExactTurnover", fn := fun _ => fun
  | [d1, d2] => { results := [.lit (.bool false)], args := [d1, d2] }
  | _ => none }
def FnExactTurnoverWrongFalsely : Prop := fnExactTurnoverRow.holds Try.pinned (OpenSpec.ofChange fnExactTurnoverWrong)

/-- 'laws.FnExactSaldoAt': WHATEVER THE INPUT: true; the input reads as it did. -/
def fnExactSaldoAtSpec : ChangeSpec := { name := "fnExactSaldoAt", fn := fun _ => fun
  | [d1, d2, d3] => { results := [.lit (.bool true)], args := [d1, d2, d3] }
  | _ => none }
def fnExactSaldoAtRow : OpenClaim := { program := "ytdcapmgebjifpaa", sum := "1523aa8c66b27cca6370f54b0ee6c167b63293991dcad156bab120af88b55a66", func := "loop.example/savingsclub/laws.FnExactSaldoAt", spec := "fnExactSaldoAt", apart := false }
def FnExactSaldoAtSaid : Prop := fnExactSaldoAtRow.holds Try.pinned (OpenSpec.ofChange fnExactSaldoAtSpec)

/-- ITS FALSE NEIGHBOUR: 'it returns false'. Refute it at one input. -/
def fnExactSaldoAtWrong : ChangeSpec := { name := "fnExactSaldoAt", fn := fun _ => fun
  | [d1, d2, d3] => { results := [.lit (.bool false)], args := [d1, d2, d3] }
  | _ => none }
def FnExactSaldoAtWrongFalsely : Prop := fnExactSaldoAtRow.holds Try.pinned (OpenSpec.ofChange fnExactSaldoAtWrong)

/-- 'laws.FnExactValidLock': WHATEVER THE INPUT: true; the input reads as it did. -/
def fnExactValidLockSpec : ChangeSpec := { name := "fnExactValidLock", fn := fun _ => fun
  | [d] => { results := [.lit (.bool true)], args := [d] }
  | _ => none }
def fnExactValidLockRow : OpenClaim := { program := "ytdcapmgebjifpaa", sum := "1523aa8c66b27cca6370f54b0ee6c167b63293991dcad156bab120af88b55a66", func := "loop.example/savingsclub/laws.FnExactValidLock", spec := "fnExactValidLock", recurses := true, loops := true, apart := false }
def FnExactValidLockSaid : Prop := fnExactValidLockRow.holds Try.pinned (OpenSpec.ofChange fnExactValidLockSpec)

/-- ITS FALSE NEIGHBOUR: 'it returns false'. Refute it at one input. -/
def fnExactValidLockWrong : ChangeSpec := { name := "fnExactValidLock", fn := fun _ => fun
  | [d] => { results := [.lit (.bool false)], args := [d] }
  | _ => none }
def FnExactValidLockWrongFalsely : Prop := fnExactValidLockRow.holds Try.pinned (OpenSpec.ofChange fnExactValidLockWrong)

/-- 'laws.FnHonest': WHATEVER THE INPUT: true; the input reads as it did. -/
def fnHonestSpec : ChangeSpec := { name := "fnHonest", fn := fun _ => fun
  | [d] => { results := [.lit (.bool true)], args := [d] }
  | _ => none }
def fnHonestRow : OpenClaim := { program := "ytdcapmgebjifpaa", sum := "1523aa8c66b27cca6370f54b0ee6c167b63293991dcad156bab120af88b55a66", func := "loop.example/savingsclub/laws.FnHonest", spec := "fnHonest", apart := false }
def FnHonestSaid : Prop := fnHonestRow.holds Try.pinned (OpenSpec.ofChange fnHonestSpec)

/-- ITS FALSE NEIGHBOUR: 'it returns false'. Refute it at one input. -/
def fnHonestWrong : ChangeSpec := { name := "fnHonest", fn := fun _ => fun
  | [d] => { results := [.lit (.bool false)], args := [d] }
  | _ => none }
def FnHonestWrongFalsely : Prop := fnHonestRow.holds Try.pinned (OpenSpec.ofChange fnHonestWrong)

/-- 'laws.FnExactTallyOf': WHATEVER THE INPUT: true; the input reads as it did. -/
def fnExactTallyOfSpec : ChangeSpec := { name := "fnExactTallyOf", fn := fun _ => fun
  | [d1, d2, d3] => { results := [.lit (.bool true)], args := [d1, d2, d3] }
  | _ => none }
def fnExactTallyOfRow : OpenClaim := { program := "ytdcapmgebjifpaa", sum := "1523aa8c66b27cca6370f54b0ee6c167b63293991dcad156bab120af88b55a66", func := "loop.example/savingsclub/laws.FnExactTallyOf", spec := "fnExactTallyOf", apart := false }
def FnExactTallyOfSaid : Prop := fnExactTallyOfRow.holds Try.pinned (OpenSpec.ofChange fnExactTallyOfSpec)

/-- ITS FALSE NEIGHBOUR: 'it returns false'. Refute it at one input. -/
def fnExactTallyOfWrong : ChangeSpec := { name := "fnExactTallyOf", fn := fun _ => fun
  | [d1, d2, d3] => { results := [.lit (.bool false)], args := [d1, d2, d3] }
  | _ => none }
def FnExactTallyOfWrongFalsely : Prop := fnExactTallyOfRow.holds Try.pinned (OpenSpec.ofChange fnExactTallyOfWrong)

/-- 'laws.FnExactFirstBelow': WHATEVER THE INPUT: true; the input reads as it did. -/
def fnExactFirstBelowSpec : ChangeSpec := { name := "fnExactFirstBelow", fn := fun _ => fun
  | [d1, d2, d3] => { results := [.lit (.bool true)], args := [d1, d2, d3] }
  | _ => none }
def fnExactFirstBelowRow : OpenClaim := { program := "ytdcapmgebjifpaa", sum := "1523aa8c66b27cca6370f54b0ee6c167b63293991dcad156bab120af88b55a66", func := "loop.example/savingsclub/laws.FnExactFirstBelow", spec := "fnExactFirstBelow", apart := false }
def FnExactFirstBelowSaid : Prop := fnExactFirstBelowRow.holds Try.pinned (OpenSpec.ofChange fnExactFirstBelowSpec)

/-- ITS FALSE NEIGHBOUR: 'it returns false'. Refute it at one input. -/
def fnExactFirstBelowWrong : ChangeSpec := { name := "fnExactFirstBelow", fn := fun _ => fun
  | [d1, d2, d3] => { results := [.lit (.bool false)], args := [d1, d2, d3] }
  | _ => none }
def FnExactFirstBelowWrongFalsely : Prop := fnExactFirstBelowRow.holds Try.pinned (OpenSpec.ofChange fnExactFirstBelowWrong)

/-- 'laws.FnTurnover': WHATEVER THE INPUT: true; the input reads as it did. -/
def fnTurnoverSpec : ChangeSpec := { name := "fnTurnover", fn := fun _ => fun
  | [d] => { results := [.lit (.bool true)], args := [d] }
  | _ => none }
def fnTurnoverRow : OpenClaim := { program := "ytdcapmgebjifpaa", sum := "1523aa8c66b27cca6370f54b0ee6c167b63293991dcad156bab120af88b55a66", func := "loop.example/savingsclub/laws.FnTurnover", spec := "fnTurnover", apart := false }
def FnTurnoverSaid : Prop := fnTurnoverRow.holds Try.pinned (OpenSpec.ofChange fnTurnoverSpec)

/-- ITS FALSE NEIGHBOUR: 'it returns false'. Refute it at one input. -/
def fnTurnoverWrong : ChangeSpec := { name := "fnTurnover", fn := fun _ => fun
  | [d] => { results := [.lit (.bool false)], args := [d] }
  | _ => none }
def FnTurnoverWrongFalsely : Prop := fnTurnoverRow.holds Try.pinned (OpenSpec.ofChange fnTurnoverWrong)

/- THE SECOND FORM. 'bulk': how many values and letters a reading holds, each counted each time it is reached (what is shared counts as often as it is met; a slice's spare places count too). A statement '..UptoSaid' is the law's where the arguments, and the package variables that the reading takes, are together of bulk at most 1048576: NARROWER than '..Said'. Prove '..Said' where nothing that the law and all that it calls make is longer than what came in: it says more and counts as full. Else prove '..UptoSaid'. A law counts once. -/
mutual
def uptoBulk {H : Type} : DataW H → Nat
  | .lit (.string bytes) => bytes.length + 1
  | .lit _ => 1
  | .nil => 1
  | .ptr d => uptoBulk d + 1
  | .slice elems spare => uptoBulkAll elems + uptoBulkAll spare + 1
  | .agg parts => uptoBulkAll parts + 1
  | .iface _ d => uptoBulk d + 1
  | .map entries => uptoBulkEntries entries + 1
  | .held _ => 1
def uptoBulkAll {H : Type} : List (DataW H) → Nat
  | [] => 0
  | d :: r => uptoBulk d + uptoBulkAll r
def uptoBulkEntries {H : Type} : List (Lit × DataW H) → Nat
  | [] => 0
  | x :: r => uptoBulkEntry x + uptoBulkEntries r
def uptoBulkEntry {H : Type} : Lit × DataW H → Nat
  | (.string bytes, d) => bytes.length + uptoBulk d + 1
  | (_, d) => uptoBulk d + 1
 end
def uptoSmall : (H : Type) → List (DataW H) → Bool := fun _ ds => decide (uptoBulkAll ds ≤ 1048576)
def OpenSpec.upto (s : _root_.Go.ChangeSpec) : _root_.Go.OpenSpec := { _root_.Go.OpenSpec.ofChange s with cond := some uptoSmall }

/-- 'laws.FnExactValidLoans', WHERE WHAT IT READS IS OF BULK AT MOST 1048576: true; the input reads as it did. -/
def fnExactValidLoansUptoRow : OpenClaim := { program := "ytdcapmgebjifpaa", sum := "1523aa8c66b27cca6370f54b0ee6c167b63293991dcad156bab120af88b55a66", func := "loop.example/savingsclub/laws.FnExactValidLoans", spec := "fnExactValidLoans", apart := false, narrowed := true }
def FnExactValidLoansUptoSaid : Prop := fnExactValidLoansUptoRow.holds Try.pinned (OpenSpec.upto fnExactValidLoansSpec)

/-- 'laws.FnCastOut', WHERE WHAT IT READS IS OF BULK AT MOST 1048576: true; the input reads as it did. -/
def fnCastOutUptoRow : OpenClaim := { program := "ytdcapmgebjifpaa", sum := "1523aa8c66b27cca6370f54b0ee6c167b63293991dcad156bab120af88b55a66", func := "loop.example/savingsclub/laws.FnCastOut", spec := "fnCastOut", apart := false, narrowed := true }
def FnCastOutUptoSaid : Prop := fnCastOutUptoRow.holds Try.pinned (OpenSpec.upto fnCastOutSpec)

/-- 'laws.FnValidRanks', WHERE WHAT IT READS IS OF BULK AT MOST 1048576: true; the input reads as it did. -/
def fnValidRanksUptoRow : OpenClaim := { program := "ytdcapmgebjifpaa", sum := "1523aa8c66b27cca6370f54b0ee6c167b63293991dcad156bab120af88b55a66", func := "loop.example/savingsclub/laws.FnValidRanks", spec := "fnValidRanks", apart := false, narrowed := true }
def FnValidRanksUptoSaid : Prop := fnValidRanksUptoRow.holds Try.pinned (OpenSpec.upto fnValidRanksSpec)

/-- 'laws.FnExactWinnerOf', WHERE WHAT IT READS IS OF BULK AT MOST 1048576: true; the input reads as it did. -/
def fnExactWinnerOfUptoRow : OpenClaim := { program := "ytdcapmgebjifpaa", sum := "1523aa8c66b27cca6370f54b0ee6c167b63293991dcad156bab120af88b55a66", func := "loop.example/savingsclub/laws.FnExactWinnerOf", spec := "fnExactWinnerOf", apart := false, narrowed := true }
def FnExactWinnerOfUptoSaid : Prop := fnExactWinnerOfUptoRow.holds Try.pinned (OpenSpec.upto fnExactWinnerOfSpec)

/-- 'laws.FnExactOwedAfter', WHERE WHAT IT READS IS OF BULK AT MOST 1048576: true; the input reads as it did. -/
def fnExactOwedAfterUptoRow : OpenClaim := { program := "ytdcapmgebjifpaa", sum := "1523aa8c66b27cca6370f54b0ee6c167b63293991dcad156bab120af88b55a66", func := "loop.example/savingsclub/laws.FnExactOwedAfter", spec := "fnExactOwedAfter", apart := false, narrowed := true }
def FnExactOwedAfterUptoSaid : Prop := fnExactOwedAfterUptoRow.holds Try.pinned (OpenSpec.upto fnExactOwedAfterSpec)

/-- 'laws.FnExactTurnover', WHERE WHAT IT READS IS OF BULK AT MOST 1048576: true; the input reads as it did. -/
def fnExactTurnoverUptoRow : OpenClaim := { program := "ytdcapmgebjifpaa", sum := "1523aa8c66b27cca6370f54b0ee6c167b63293991dcad156bab120af88b55a66", func := "loop.example/savingsclub/laws.FnExactTurnover", spec := "fnExactTurnover", apart := false, narrowed := true }
def FnExactTurnoverUptoSaid : Prop := fnExactTurnoverUptoRow.holds Try.pinned (OpenSpec.upto fnExactTurnoverSpec)

/-- 'laws.FnExactSaldoAt', WHERE WHAT IT READS IS OF BULK AT MOST 1048576: true; the input reads as it did. -/
def fnExactSaldoAtUptoRow : OpenClaim := { program := "ytdcapmgebjifpaa", sum := "1523aa8c66b27cca6370f54b0ee6c167b63293991dcad156bab120af88b55a66", func := "loop.example/savingsclub/laws.FnExactSaldoAt", spec := "fnExactSaldoAt", apart := false, narrowed := true }
def FnExactSaldoAtUptoSaid : Prop := fnExactSaldoAtUptoRow.holds Try.pinned (OpenSpec.upto fnExactSaldoAtSpec)

/-- 'laws.FnExactValidLock', WHERE WHAT IT READS IS OF BULK AT MOST 1048576: true; the input reads as it did. -/
def fnExactValidLockUptoRow : OpenClaim := { program := "ytdcapmgebjifpaa", sum := "1523aa8c66b27cca6370f54b0ee6c167b63293991dcad156bab120af88b55a66", func := "loop.example/savingsclub/laws.FnExactValidLock", spec := "fnExactValidLock", recurses := true, loops := true, apart := false, narrowed := true }
def FnExactValidLockUptoSaid : Prop := fnExactValidLockUptoRow.holds Try.pinned (OpenSpec.upto fnExactValidLockSpec)

/-- 'laws.FnHonest', WHERE WHAT IT READS IS OF BULK AT MOST 1048576: true; the input reads as it did. -/
def fnHonestUptoRow : OpenClaim := { program := "ytdcapmgebjifpaa", sum := "1523aa8c66b27cca6370f54b0ee6c167b63293991dcad156bab120af88b55a66", func := "loop.example/savingsclub/laws.FnHonest", spec := "fnHonest", apart := false, narrowed := true }
def FnHonestUptoSaid : Prop := fnHonestUptoRow.holds Try.pinned (OpenSpec.upto fnHonestSpec)

/-- 'laws.FnExactTallyOf', WHERE WHAT IT READS IS OF BULK AT MOST 1048576: true; the input reads as it did. -/
def fnExactTallyOfUptoRow : OpenClaim := { program := "ytdcapmgebjifpaa", sum := "1523aa8c66b27cca6370f54b0ee6c167b63293991dcad156bab120af88b55a66", func := "loop.example/savingsclub/laws.FnExactTallyOf", spec := "fnExactTallyOf", apart := false, narrowed := true }
def FnExactTallyOfUptoSaid : Prop := fnExactTallyOfUptoRow.holds Try.pinned (OpenSpec.upto fnExactTallyOfSpec)

/-- 'laws.FnExactFirstBelow', WHERE WHAT IT READS IS OF BULK AT MOST 1048576: true; the input reads as it did. -/
def fnExactFirstBelowUptoRow : OpenClaim := { program := "ytdcapmgebjifpaa", sum := "1523aa8c66b27cca6370f54b0ee6c167b63293991dcad156bab120af88b55a66", func := "loop.example/savingsclub/laws.FnExactFirstBelow", spec := "fnExactFirstBelow", apart := false, narrowed := true }
def FnExactFirstBelowUptoSaid : Prop := fnExactFirstBelowUptoRow.holds Try.pinned (OpenSpec.upto fnExactFirstBelowSpec)

/-- 'laws.FnTurnover', WHERE WHAT IT READS IS OF BULK AT MOST 1048576: true; the input reads as it did. -/
def fnTurnoverUptoRow : OpenClaim := { program := "ytdcapmgebjifpaa", sum := "1523aa8c66b27cca6370f54b0ee6c167b63293991dcad156bab120af88b55a66", func := "loop.example/savingsclub/laws.FnTurnover", spec := "fnTurnover", apart := false, narrowed := true }
def FnTurnoverUptoSaid : Prop := fnTurnoverUptoRow.holds Try.pinned (OpenSpec.upto fnTurnoverSpec)

end Rows
end Go.Proofs.Ytdcapmgebjifpaa
