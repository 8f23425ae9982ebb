/-
  No cell of these rows narrows 'for every input' (looked for: loops, veiled, ifaces, maps, wideKeys, modest, calm, conditions, laid).
  DERIVED. THE GIVEN ROWS OF THIS SEAT. 12 by the template 'for every input the law returns true; each argument reads behind the call as it read before'; 0 by the template 'total and deterministic' (their statements: YtlkcblhagcgboaaTotals.lean).
  GIVEN WITH THE SEED: the statements are not yours to turn. If you find one false, say at which input.
  Laid BY PROGRAM, IN A SANDBOX (cutbox-rows.mjs): the forced cells as the released guide's own fill.sh prints them over the translation d66d0a1a670c00ed… (all of the seat's roots in one cut). By AI agents, Wed Nov 11 2026. No macro, syntax, notation, axiom, sorry.
-/
import Derived.Test.YtlkcblhagcgboaaChecked
import GoSem.Claim
import GoSem.ClaimJoined
import GoSem.ClaimMapViews
import Derived.JoinedTies
import Derived.KernelRfl
namespace Go.Proofs.Ytlkcblhagcgboaa
/- THE CELL 'sum', in the pinned program and in every row, IS THE sha256 OF THE DUMP (.gsa) THAT YtlkcblhagcgboaaProg.lean LOADS. Nothing in Lean hashes anything: it is a label: what it is worth is what the hold of that sum in a sandbox is worth. -/
noncomputable def Try.pinned : Pinned := { name := "ytlkcblhagcgboaa", sum := "d66d0a1a670c00edd79523bf840d755d61cd70601b97e66c7880c78ce4eb4699", checked := Try.checked }
namespace Rows
def none {H : Type} : Left H := { results := [], args := [] }

/-- 'laws.FnValidOrder': WHATEVER THE INPUT: true; the input reads as it did. -/
def fnValidOrderSpec : ChangeSpec := { name := "fnValidOrder", fn := fun _ => fun
  | [d] => { results := [.lit (.bool true)], args := [d] }
  | _ => none }
def fnValidOrderRow : OpenClaim := { program := "ytlkcblhagcgboaa", sum := "d66d0a1a670c00edd79523bf840d755d61cd70601b97e66c7880c78ce4eb4699", func := "loop.example/savingsclub/laws.FnValidOrder", spec := "fnValidOrder", apart := false }
def FnValidOrderSaid : Prop := fnValidOrderRow.holds Try.pinned (OpenSpec.ofChange fnValidOrderSpec)

/-- ITS FALSE NEIGHBOUR: 'it returns false'. Refute it at one input. -/
def fnValidOrderWrong : ChangeSpec := { name := "fnValidOrder", fn := fun _ => fun
  | [d] => { results := [.lit (.bool false)], args := [d] }
  | _ => none }
def FnValidOrderWrongFalsely : Prop := fnValidOrderRow.holds Try.pinned (OpenSpec.ofChange fnValidOrderWrong)

/-- 'laws.FnDrawOf': WHATEVER THE INPUT: true; the input reads as it did. -/
def fnDrawOfSpec : ChangeSpec := { name := "fnDrawOf", fn := fun _ => fun
  | [d] => { results := [.lit (.bool true)], args := [d] }
  | _ => none }
def fnDrawOfRow : OpenClaim := { program := "ytlkcblhagcgboaa", sum := "d66d0a1a670c00edd79523bf840d755d61cd70601b97e66c7880c78ce4eb4699", func := "loop.example/savingsclub/laws.FnDrawOf", spec := "fnDrawOf", apart := false }
def FnDrawOfSaid : Prop := fnDrawOfRow.holds Try.pinned (OpenSpec.ofChange fnDrawOfSpec)

/-- ITS FALSE NEIGHBOUR: 'it returns false'. Refute it at one input. -/
def fnDrawOfWrong : ChangeSpec := { name := "fnDrawOf", fn := fun _ => fun
  | [d] => { results := [.lit (.bool false)], args := [d] }
  | _ => none }
def FnDrawOfWrongFalsely : Prop := fnDrawOfRow.holds Try.pinned (OpenSpec.ofChange fnDrawOfWrong)

/-- 'laws.FnDrawOfFair': WHATEVER THE INPUT: true; the input reads as it did. -/
def fnDrawOfFairSpec : ChangeSpec := { name := "fnDrawOfFair", fn := fun _ => fun
  | [d] => { results := [.lit (.bool true)], args := [d] }
  | _ => none }
def fnDrawOfFairRow : OpenClaim := { program := "ytlkcblhagcgboaa", sum := "d66d0a1a670c00edd79523bf840d755d61cd70601b97e66c7880c78ce4eb4699", func := "loop.example/savingsclub/laws.FnDrawOfFair", spec := "fnDrawOfFair", apart := false }
def FnDrawOfFairSaid : Prop := fnDrawOfFairRow.holds Try.pinned (OpenSpec.ofChange fnDrawOfFairSpec)

/-- ITS FALSE NEIGHBOUR: 'it returns false'. Refute it at one input. -/
def fnDrawOfFairWrong : ChangeSpec := { name := "fnDrawOfFair", fn := fun _ => fun
  | [d] => { results := [.lit (.bool false)], args := [d] }
  | _ => none }
def FnDrawOfFairWrongFalsely : Prop := fnDrawOfFairRow.holds Try.pinned (OpenSpec.ofChange fnDrawOfFairWrong)

/-- 'laws.FnExactDrawOf': WHATEVER THE INPUT: true; the input reads as it did. -/
def fnExactDrawOfSpec : ChangeSpec := { name := "fnExactDrawOf", fn := fun _ => fun
  | [d1, d2] => { results := [.lit (.bool true)], args := [d1, d2] }
  | _ => none }
def fnExactDrawOfRow : OpenClaim := { program := "ytlkcblhagcgboaa", sum := "d66d0a1a670c00edd79523bf840d755d61cd70601b97e66c7880c78ce4eb4699", func := "loop.example/savingsclub/laws.FnExactDrawOf", spec := "fnExactDrawOf", apart := false }
def FnExactDrawOfSaid : Prop := fnExactDrawOfRow.holds Try.pinned (OpenSpec.ofChange fnExactDrawOfSpec)

/-- ITS FALSE NEIGHBOUR: 'it returns false'. Refute it at one input. -/
def fnExactDrawOfWrong : ChangeSpec := { name := "fnExactDrawOf", fn := fun _ => fun
  | [d1, d2] => { results := [.lit (.bool false)], args := [d1, d2] }
  | _ => none }
def FnExactDrawOfWrongFalsely : Prop := fnExactDrawOfRow.holds Try.pinned (OpenSpec.ofChange fnExactDrawOfWrong)

/-- 'laws.FnExactValidRanks': WHATEVER THE INPUT: true; the input reads as it did. -/
def fnExactValidRanksSpec : ChangeSpec := { name := "fnExactValidRanks", fn := fun _ => fun
  | [d] => { results := [.lit (.bool true)], args := [d] }
  | _ => none }
def fnExactValidRanksRow : OpenClaim := { program := "ytlkcblhagcgboaa", sum := "d66d0a1a670c00edd79523bf840d755d61cd70601b97e66c7880c78ce4eb4699", func := "loop.example/savingsclub/laws.FnExactValidRanks", spec := "fnExactValidRanks", apart := false }
def FnExactValidRanksSaid : Prop := fnExactValidRanksRow.holds Try.pinned (OpenSpec.ofChange fnExactValidRanksSpec)

/-- ITS FALSE NEIGHBOUR: 'it returns false'. Refute it at one input. -/
def fnExactValidRanksWrong : ChangeSpec := { name := "fnExactValidRanks", fn := fun _ => fun
  | [d] => { results := [.lit (.bool false)], args := [d] }
  | _ => none }
def FnExactValidRanksWrongFalsely : Prop := fnExactValidRanksRow.holds Try.pinned (OpenSpec.ofChange fnExactValidRanksWrong)

/-- 'laws.FnExactValidShares': WHATEVER THE INPUT: true; the input reads as it did. -/
def fnExactValidSharesSpec : ChangeSpec := { name := "fnExactValidShares", fn := fun _ => fun
  | [d] => { results := [.lit (.bool true)], args := [d] }
  | _ => none }
def fnExactValidSharesRow : OpenClaim := { program := "ytlkcblhagcgboaa", sum := "d66d0a1a670c00edd79523bf840d755d61cd70601b97e66c7880c78ce4eb4699", func := "loop.example/savingsclub/laws.FnExactValidShares", spec := "fnExactValidShares", apart := false }
def FnExactValidSharesSaid : Prop := fnExactValidSharesRow.holds Try.pinned (OpenSpec.ofChange fnExactValidSharesSpec)

/-- ITS FALSE NEIGHBOUR: 'it returns false'. Refute it at one input. -/
def fnExactValidSharesWrong : ChangeSpec := { name := "fnExactValidShares", fn := fun _ => fun
  | [d] => { results := [.lit (.bool false)], args := [d] }
  | _ => none }
def FnExactValidSharesWrongFalsely : Prop := fnExactValidSharesRow.holds Try.pinned (OpenSpec.ofChange fnExactValidSharesWrong)

/-- 'laws.FnLeaveSeat': WHATEVER THE INPUT: true; the input reads as it did. -/
def fnLeaveSeatSpec : ChangeSpec := { name := "fnLeaveSeat", fn := fun _ => fun
  | [d] => { results := [.lit (.bool true)], args := [d] }
  | _ => none }
def fnLeaveSeatRow : OpenClaim := { program := "ytlkcblhagcgboaa", sum := "d66d0a1a670c00edd79523bf840d755d61cd70601b97e66c7880c78ce4eb4699", func := "loop.example/savingsclub/laws.FnLeaveSeat", spec := "fnLeaveSeat", apart := false }
def FnLeaveSeatSaid : Prop := fnLeaveSeatRow.holds Try.pinned (OpenSpec.ofChange fnLeaveSeatSpec)

/-- ITS FALSE NEIGHBOUR: 'it returns false'. Refute it at one input. -/
def fnLeaveSeatWrong : ChangeSpec := { name := "fnLeaveSeat", fn := fun _ => fun
  | [d] => { results := [.lit (.bool false)], args := [d] }
  | _ => none }
def FnLeaveSeatWrongFalsely : Prop := fnLeaveSeatRow.holds Try.pinned (OpenSpec.ofChange fnLeaveSeatWrong)

/-- 'laws.FnExactLeaveSeat': WHATEVER THE INPUT: true; the input reads as it did. -/
def fnExactLeaveSeatSpec : ChangeSpec := { name := "fnExactLeaveSeat", fn := fun _ => fun
  | [d1, d2] => { results := [.lit (.bool true)], args := [d1, d2] }
  | _ => none }
def fnExactLeaveSeatRow : OpenClaim := { program := "ytlkcblhagcgboaa", sum := "d66d0a1a670c00edd79523bf840d755d61cd70601b97e66c7880c78ce4eb4699", func := "loop.example/savingsclub/laws.FnExactLeaveSeat", spec := "fnExactLeaveSeat", apart := false }
def FnExactLeaveSeatSaid : Prop := fnExactLeaveSeatRow.holds Try.pinned (OpenSpec.ofChange fnExactLeaveSeatSpec)

/-- ITS FALSE NEIGHBOUR: 'it returns false'. Refute it at one input. -/
def fnExactLeaveSeatWrong : ChangeSpec := { name := "fnExactLeaveSeat", fn := fun _ => fun
  | [d1, d2] => { results := [.lit (.bool false)], args := [d1, d2] }
  | _ => none }
def FnExactLeaveSeatWrongFalsely : Prop := fnExactLeaveSeatRow.holds Try.pinned (OpenSpec.ofChange fnExactLeaveSeatWrong)

/-- 'laws.FnExactLeaveWith': WHATEVER THE INPUT: true; the input reads as it did. -/
def fnExactLeaveWithSpec : ChangeSpec := { name := "fnExactLeaveWith", fn := fun _ => fun
  | [d1, d2, d3, d4] => { results := [.lit (.bool true)], args := [d1, d2, d3, d4] }
  | _ => none }
def fnExactLeaveWithRow : OpenClaim := { program := "ytlkcblhagcgboaa", sum := "d66d0a1a670c00edd79523bf840d755d61cd70601b97e66c7880c78ce4eb4699", func := "loop.example/savingsclub/laws.FnExactLeaveWith", spec := "fnExactLeaveWith", named := ["math/bits.divideError", "math/bits.overflowError"], apart := false }
def FnExactLeaveWithSaid : Prop := fnExactLeaveWithRow.holds Try.pinned (OpenSpec.ofChange fnExactLeaveWithSpec)

/-- ITS FALSE NEIGHBOUR: 'it returns false'. Refute it at one input. -/
def fnExactLeaveWithWrong : ChangeSpec := { name := "fnExactLeaveWith", fn := fun _ => fun
  | [d1, d2, d3, d4] => { results := [.lit (.bool false)], args := [d1, d2, d3, d4] }
  | _ => none }
def FnExactLeaveWithWrongFalsely : Prop := fnExactLeaveWithRow.holds Try.pinned (OpenSpec.ofChange fnExactLeaveWithWrong)

/-- 'laws.FnExactSwapTurns': WHATEVER THE INPUT: true; the input reads as it did. -/
def fnExactSwapTurnsSpec : ChangeSpec := { name := "fnExactSwapTurns", fn := fun _ => fun
  | [d1, d2, d3] => { results := [.lit (.bool true)], args := [d1, d2, d3] }
  | _ => none }
def fnExactSwapTurnsRow : OpenClaim := { program := "ytlkcblhagcgboaa", sum := "d66d0a1a670c00edd79523bf840d755d61cd70601b97e66c7880c78ce4eb4699", func := "loop.example/savingsclub/laws.FnExactSwapTurns", spec := "fnExactSwapTurns", apart := false }
def FnExactSwapTurnsSaid : Prop := fnExactSwapTurnsRow.holds Try.pinned (OpenSpec.ofChange fnExactSwapTurnsSpec)

/-- ITS FALSE NEIGHBOUR: 'it returns false'. Refute it at one input. -/
def fnExactSwapTurnsWrong : ChangeSpec := { name := "fnExactSwapTurns", fn := fun _ => fun
  | [d1, d2, d3] => { results := [.lit (.bool false)], args := [d1, d2, d3] }
  | _ => none }
def FnExactSwapTurnsWrongFalsely : Prop := fnExactSwapTurnsRow.holds Try.pinned (OpenSpec.ofChange fnExactSwapTurnsWrong)

/-- 'laws.FnSwappedOf': WHATEVER THE INPUT: true; the input reads as it did. -/
def fnSwappedOfSpec : ChangeSpec := { name := "fnSwappedOf", fn := fun _ => fun
  | [d] => { results := [.lit (.bool true)], args := [d] }
  | _ => none }
def fnSwappedOfRow : OpenClaim := { program := "ytlkcblhagcgboaa", sum := "d66d0a1a670c00edd79523bf840d755d61cd70601b97e66c7880c78ce4eb4699", func := "loop.example/savingsclub/laws.FnSwappedOf", spec := "fnSwappedOf", recurses := true, apart := false }
def FnSwappedOfSaid : Prop := fnSwappedOfRow.holds Try.pinned (OpenSpec.ofChange fnSwappedOfSpec)

/-- ITS FALSE NEIGHBOUR: 'it returns false'. Refute it at one input. -/
def fnSwappedOfWrong : ChangeSpec := { name := "fnSwappedOf", fn := fun _ => fun
  | [d] => { results := [.lit (.bool false)], args := [d] }
  | _ => none }
def FnSwappedOfWrongFalsely : Prop := fnSwappedOfRow.holds Try.pinned (OpenSpec.ofChange fnSwappedOfWrong)

/-- 'laws.FnValidLock': WHATEVER THE INPUT: true; the input reads as it did. -/
def fnValidLockSpec : ChangeSpec := { name := "fnValidLock", fn := fun _ => fun
  | [d] => { results := [.lit (.bool true)], args := [d] }
  | _ => none }
def fnValidLockRow : OpenClaim := { program := "ytlkcblhagcgboaa", sum := "d66d0a1a670c00edd79523bf840d755d61cd70601b97e66c7880c78ce4eb4699", func := "loop.example/savingsclub/laws.FnValidLock", spec := "fnValidLock", recurses := true, apart := false }
def FnValidLockSaid : Prop := fnValidLockRow.holds Try.pinned (OpenSpec.ofChange fnValidLockSpec)

/-- ITS FALSE NEIGHBOUR: 'it returns false'. Refute it at one input. -/
def fnValidLockWrong : ChangeSpec := { name := "fnValidLock", fn := fun _ => fun
  | [d] => { results := [.lit (.bool false)], args := [d] }
  | _ => none }
def FnValidLockWrongFalsely : Prop := fnValidLockRow.holds Try.pinned (OpenSpec.ofChange fnValidLockWrong)

/- THE SECOND FORM. 'bulk': how many values and letters a reading holds, each counted each time it is reached (what is shared counts as often as it is met; a slice's spare places count too). A statement '..UptoSaid' is the law's where the arguments, and the package variables that the reading takes, are together of bulk at most 1048576: NARROWER than '..Said'. Prove '..Said' where nothing that the law and all that it calls make is longer than what came in: it says more and counts as full. Else prove '..UptoSaid'. A law counts once. -/
mutual
def uptoBulk {H : Type} : DataW H → Nat
  | .lit (.string bytes) => bytes.length + 1
  | .lit _ => 1
  | .nil => 1
  | .ptr d => uptoBulk d + 1
  | .slice elems spare => uptoBulkAll elems + uptoBulkAll spare + 1
  | .agg parts => uptoBulkAll parts + 1
  | .iface _ d => uptoBulk d + 1
  | .map entries => uptoBulkEntries entries + 1
  | .held _ => 1
def uptoBulkAll {H : Type} : List (DataW H) → Nat
  | [] => 0
  | d :: r => uptoBulk d + uptoBulkAll r
def uptoBulkEntries {H : Type} : List (Lit × DataW H) → Nat
  | [] => 0
  | x :: r => uptoBulkEntry x + uptoBulkEntries r
def uptoBulkEntry {H : Type} : Lit × DataW H → Nat
  | (.string bytes, d) => bytes.length + uptoBulk d + 1
  | (_, d) => uptoBulk d + 1
 end
def uptoSmall : (H : Type) → List (DataW H) → Bool := fun _ ds => decide (uptoBulkAll ds ≤ 1048576)
def OpenSpec.upto (s : _root_.Go.ChangeSpec) : _root_.Go.OpenSpec := { _root_.Go.OpenSpec.ofChange s with cond := some uptoSmall }

/-- 'laws.FnValidOrder', WHERE WHAT IT READS IS OF BULK AT MOST 1048576: true; the input reads as it did. -/
def fnValidOrderUptoRow : OpenClaim := { program := "ytlkcblhagcgboaa", sum := "d66d0a1a670c00edd79523bf840d755d61cd70601b97e66c7880c78ce4eb4699", func := "loop.example/savingsclub/laws.FnValidOrder", spec := "fnValidOrder", apart := false, narrowed := true }
def FnValidOrderUptoSaid : Prop := fnValidOrderUptoRow.holds Try.pinned (OpenSpec.upto fnValidOrderSpec)

/-- 'laws.FnDrawOf', WHERE WHAT IT READS IS OF BULK AT MOST 1048576: true; the input reads as it did. -/
def fnDrawOfUptoRow : OpenClaim := { program := "ytlkcblhagcgboaa", sum := "d66d0a1a670c00edd79523bf840d755d61cd70601b97e66c7880c78ce4eb4699", func := "loop.example/savingsclub/laws.FnDrawOf", spec := "fnDrawOf", apart := false, narrowed := true }
def FnDrawOfUptoSaid : Prop := fnDrawOfUptoRow.holds Try.pinned (OpenSpec.upto fnDrawOfSpec)

/-- 'laws.FnDrawOfFair', WHERE WHAT IT READS IS OF BULK AT MOST 1048576: true; the input reads as it did. -/
def fnDrawOfFairUptoRow : OpenClaim := { program := "ytlkcblhagcgboaa", sum := "d66d0a1a670c00edd79523bf840d755d61cd70601b97e66c7880c78ce4eb4699", func := "loop.example/savingsclub/laws.FnDrawOfFair", spec := "fnDrawOfFair", apart := false, narrowed := true }
def FnDrawOfFairUptoSaid : Prop := fnDrawOfFairUptoRow.holds Try.pinned (OpenSpec.upto fnDrawOfFairSpec)

/-- 'laws.FnExactDrawOf', WHERE WHAT IT READS IS OF BULK AT MOST 1048576: true; the input reads as it did. -/
def fnExactDrawOfUptoRow : OpenClaim := { program := "ytlkcblhagcgboaa", sum := "d66d0a1a670c00edd79523bf840d755d61cd70601b97e66c7880c78ce4eb4699", func := "loop.example/savingsclub/laws.FnExactDrawOf", spec := "fnExactDrawOf", apart := false, narrowed := true }
def FnExactDrawOfUptoSaid : Prop := fnExactDrawOfUptoRow.holds Try.pinned (OpenSpec.upto fnExactDrawOfSpec)

/-- 'laws.FnExactValidRanks', WHERE WHAT IT READS IS OF BULK AT MOST 1048576: true; the input reads as it did. -/
def fnExactValidRanksUptoRow : OpenClaim := { program := "ytlkcblhagcgboaa", sum := "d66d0a1a670c00edd79523bf840d755d61cd70601b97e66c7880c78ce4eb4699", func := "loop.example/savingsclub/laws.FnExactValidRanks", spec := "fnExactValidRanks", apart := false, narrowed := true }
def FnExactValidRanksUptoSaid : Prop := fnExactValidRanksUptoRow.holds Try.pinned (OpenSpec.upto fnExactValidRanksSpec)

/-- 'laws.FnExactValidShares', WHERE WHAT IT READS IS OF BULK AT MOST 1048576: true; the input reads as it did. -/
def fnExactValidSharesUptoRow : OpenClaim := { program := "ytlkcblhagcgboaa", sum := "d66d0a1a670c00edd79523bf840d755d61cd70601b97e66c7880c78ce4eb4699", func := "loop.example/savingsclub/laws.FnExactValidShares", spec := "fnExactValidShares", apart := false, narrowed := true }
def FnExactValidSharesUptoSaid : Prop := fnExactValidSharesUptoRow.holds Try.pinned (OpenSpec.upto fnExactValidSharesSpec)

/-- 'laws.FnLeaveSeat', WHERE WHAT IT READS IS OF BULK AT MOST 1048576: true; the input reads as it did. -/
def fnLeaveSeatUptoRow : OpenClaim := { program := "ytlkcblhagcgboaa", sum := "d66d0a1a670c00edd79523bf840d755d61cd70601b97e66c7880c78ce4eb4699", func := "loop.example/savingsclub/laws.FnLeaveSeat", spec := "fnLeaveSeat", apart := false, narrowed := true }
def FnLeaveSeatUptoSaid : Prop := fnLeaveSeatUptoRow.holds Try.pinned (OpenSpec.upto fnLeaveSeatSpec)

/-- 'laws.FnExactLeaveSeat', WHERE WHAT IT READS IS OF BULK AT MOST 1048576: true; the input reads as it did. -/
def fnExactLeaveSeatUptoRow : OpenClaim := { program := "ytlkcblhagcgboaa", sum := "d66d0a1a670c00edd79523bf840d755d61cd70601b97e66c7880c78ce4eb4699", func := "loop.example/savingsclub/laws.FnExactLeaveSeat", spec := "fnExactLeaveSeat", apart := false, narrowed := true }
def FnExactLeaveSeatUptoSaid : Prop := fnExactLeaveSeatUptoRow.holds Try.pinned (OpenSpec.upto fnExactLeaveSeatSpec)

/-- 'laws.FnExactLeaveWith', WHERE WHAT IT READS IS OF BULK AT MOST 1048576: true; the input reads as it did. -/
def fnExactLeaveWithUptoRow : OpenClaim := { program := "ytlkcblhagcgboaa", sum := "d66d0a1a670c00edd79523bf840d755d61cd70601b97e66c7880c78ce4eb4699", func := "loop.example/savingsclub/laws.FnExactLeaveWith", spec := "fnExactLeaveWith", named := ["math/bits.divideError", "math/bits.overflowError"], apart := false, narrowed := true }
def FnExactLeaveWithUptoSaid : Prop := fnExactLeaveWithUptoRow.holds Try.pinned (OpenSpec.upto fnExactLeaveWithSpec)

/-- 'laws.FnExactSwapTurns', WHERE WHAT IT READS IS OF BULK AT MOST 1048576: true; the input reads as it did. -/
def fnExactSwapTurnsUptoRow : OpenClaim := { program := "ytlkcblhagcgboaa", sum := "d66d0a1a670c00edd79523bf840d755d61cd70601b97e66c7880c78ce4eb4699", func := "loop.example/savingsclub/laws.FnExactSwapTurns", spec := "fnExactSwapTurns", apart := false, narrowed := true }
def FnExactSwapTurnsUptoSaid : Prop := fnExactSwapTurnsUptoRow.holds Try.pinned (OpenSpec.upto fnExactSwapTurnsSpec)

/-- 'laws.FnSwappedOf', WHERE WHAT IT READS IS OF BULK AT MOST 1048576: true; the input reads as it did. -/
def fnSwappedOfUptoRow : OpenClaim := { program := "ytlkcblhagcgboaa", sum := "d66d0a1a670c00edd79523bf840d755d61cd70601b97e66c7880c78ce4eb4699", func := "loop.example/savingsclub/laws.FnSwappedOf", spec := "fnSwappedOf", recurses := true, apart := false, narrowed := true }
def FnSwappedOfUptoSaid : Prop := fnSwappedOfUptoRow.holds Try.pinned (OpenSpec.upto fnSwappedOfSpec)

/-- 'laws.FnValidLock', WHERE WHAT IT READS IS OF BULK AT MOST 1048576: true; the input reads as it did. -/
def fnValidLockUptoRow : OpenClaim := { program := "ytlkcblhagcgboaa", sum := "d66d0a1a670c00edd79523bf840d755d61cd70601b97e66c7880c78ce4eb4699", func := "loop.example/savingsclub/laws.FnValidLock", spec := "fnValidLock", recurses := true, apart := false, narrowed := true }
def FnValidLockUptoSaid : Prop := fnValidLockUptoRow.holds Try.pinned (OpenSpec.upto fnValidLockSpec)

end Rows
end Go.Proofs.Ytlkcblhagcgboaa
