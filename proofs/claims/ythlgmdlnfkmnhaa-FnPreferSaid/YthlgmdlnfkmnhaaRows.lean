/-
  No cell of these rows narrows 'for every input' (looked for: loops, veiled, ifaces, maps, wideKeys, modest, calm, conditions, laid).
  DERIVED. THE GIVEN ROWS OF THIS SEAT. 12 by the template 'for every input the law returns true; each argument reads behind the call as it read before'; 0 by the template 'total and deterministic' (their statements: YthlgmdlnfkmnhaaTotals.lean).
  GIVEN WITH THE SEED: the statements are not yours to turn. If you find one false, say at which input.
  Laid BY PROGRAM, IN A SANDBOX (cutbox-rows.mjs): the forced cells as the released guide's own fill.sh prints them over the translation 60f822574aa43f73… (all of the seat's roots in one cut). By AI agents, Wed Nov 11 2026. No macro, syntax, notation, axiom, sorry.
-/
import Derived.Test.YthlgmdlnfkmnhaaChecked
import GoSem.Claim
import GoSem.ClaimJoined
import GoSem.ClaimMapViews
import Derived.JoinedTies
import Derived.KernelRfl
namespace Go.Proofs.Ythlgmdlnfkmnhaa
/- THE CELL 'sum', in the pinned program and in every row, IS THE sha256 OF THE DUMP (.gsa) THAT YthlgmdlnfkmnhaaProg.lean LOADS. Nothing in Lean hashes anything: it is a label: what it is worth is what the hold of that sum in a sandbox is worth. -/
noncomputable def Try.pinned : Pinned := { name := "ythlgmdlnfkmnhaa", sum := "60f822574aa43f73588447d0e73a1fa8645f49365bdae42120df3245b49f0997", checked := Try.checked }
namespace Rows
def none {H : Type} : Left H := { results := [], args := [] }

/-- 'laws.FnSwapTurns': WHATEVER THE INPUT: true; the input reads as it did. -/
def fnSwapTurnsSpec : ChangeSpec := { name := "fnSwapTurns", fn := fun _ => fun
  | [d] => { results := [.lit (.bool true)], args := [d] }
  | _ => none }
def fnSwapTurnsRow : OpenClaim := { program := "ythlgmdlnfkmnhaa", sum := "60f822574aa43f73588447d0e73a1fa8645f49365bdae42120df3245b49f0997", func := "loop.example/savingsclub/laws.FnSwapTurns", spec := "fnSwapTurns", apart := false }
def FnSwapTurnsSaid : Prop := fnSwapTurnsRow.holds Try.pinned (OpenSpec.ofChange fnSwapTurnsSpec)

/-- ITS FALSE NEIGHBOUR: 'it returns false'. Refute it at one input. -/
def fnSwapTurnsWrong : ChangeSpec := { name := "fnSwapTurns", fn := fun _ => fun
  | [d] => { results := [.lit (.bool false)], args := [d] }
  | _ => none }
def FnSwapTurnsWrongFalsely : Prop := fnSwapTurnsRow.holds Try.pinned (OpenSpec.ofChange fnSwapTurnsWrong)

/-- 'laws.FnExactShortClass': WHATEVER THE INPUT: true; the input reads as it did. -/
def fnExactShortClassSpec : ChangeSpec := { name := "fnExactShortClass", fn := fun _ => fun
  | [d1, d2] => { results := [.lit (.bool true)], args := [d1, d2] }
  | _ => none }
def fnExactShortClassRow : OpenClaim := { program := "ythlgmdlnfkmnhaa", sum := "60f822574aa43f73588447d0e73a1fa8645f49365bdae42120df3245b49f0997", func := "loop.example/savingsclub/laws.FnExactShortClass", spec := "fnExactShortClass", apart := false }
def FnExactShortClassSaid : Prop := fnExactShortClassRow.holds Try.pinned (OpenSpec.ofChange fnExactShortClassSpec)

/-- ITS FALSE NEIGHBOUR: 'it returns false'. Refute it at one input. -/
def fnExactShortClassWrong : ChangeSpec := { name := "fnExactShortClass", fn := fun _ => fun
  | [d1, d2] => { results := [.lit (.bool false)], args := [d1, d2] }
  | _ => none }
def FnExactShortClassWrongFalsely : Prop := fnExactShortClassRow.holds Try.pinned (OpenSpec.ofChange fnExactShortClassWrong)

/-- 'laws.FnExactPasses': WHATEVER THE INPUT: true; the input reads as it did. -/
def fnExactPassesSpec : ChangeSpec := { name := "fnExactPasses", fn := fun _ => fun
  | [d1, d2, d3, d4] => { results := [.lit (.bool true)], args := [d1, d2, d3, d4] }
  | _ => none }
def fnExactPassesRow : OpenClaim := { program := "ythlgmdlnfkmnhaa", sum := "60f822574aa43f73588447d0e73a1fa8645f49365bdae42120df3245b49f0997", func := "loop.example/savingsclub/laws.FnExactPasses", spec := "fnExactPasses", apart := false }
def FnExactPassesSaid : Prop := fnExactPassesRow.holds Try.pinned (OpenSpec.ofChange fnExactPassesSpec)

/-- ITS FALSE NEIGHBOUR: 'it returns false'. Refute it at one input. -/
def fnExactPassesWrong : ChangeSpec := { name := "fnExactPasses", fn := fun _ => fun
  | [d1, d2, d3, d4] => { results := [.lit (.bool false)], args := [d1, d2, d3, d4] }
  | _ => none }
def FnExactPassesWrongFalsely : Prop := fnExactPassesRow.holds Try.pinned (OpenSpec.ofChange fnExactPassesWrong)

/-- 'laws.FnExactDualBody': WHATEVER THE INPUT: true; the input reads as it did. -/
def fnExactDualBodySpec : ChangeSpec := { name := "fnExactDualBody", fn := fun _ => fun
  | [d] => { results := [.lit (.bool true)], args := [d] }
  | _ => none }
def fnExactDualBodyRow : OpenClaim := { program := "ythlgmdlnfkmnhaa", sum := "60f822574aa43f73588447d0e73a1fa8645f49365bdae42120df3245b49f0997", func := "loop.example/savingsclub/laws.FnExactDualBody", spec := "fnExactDualBody", apart := false }
def FnExactDualBodySaid : Prop := fnExactDualBodyRow.holds Try.pinned (OpenSpec.ofChange fnExactDualBodySpec)

/-- ITS FALSE NEIGHBOUR: 'it returns false'. Refute it at one input. -/
def fnExactDualBodyWrong : ChangeSpec := { name := "fnExactDualBody", fn := fun _ => fun
  | [d] => { results := [.lit (.bool false)], args := [d] }
  | _ => none }
def FnExactDualBodyWrongFalsely : Prop := fnExactDualBodyRow.holds Try.pinned (OpenSpec.ofChange fnExactDualBodyWrong)

/-- 'laws.FnOwedAfter': WHATEVER THE INPUT: true; the input reads as it did. -/
def fnOwedAfterSpec : ChangeSpec := { name := "fnOwedAfter", fn := fun _ => fun
  | [d] => { results := [.lit (.bool true)], args := [d] }
  | _ => none }
def fnOwedAfterRow : OpenClaim := { program := "ythlgmdlnfkmnhaa", sum := "60f822574aa43f73588447d0e73a1fa8645f49365bdae42120df3245b49f0997", func := "loop.example/savingsclub/laws.FnOwedAfter", spec := "fnOwedAfter", apart := false }
def FnOwedAfterSaid : Prop := fnOwedAfterRow.holds Try.pinned (OpenSpec.ofChange fnOwedAfterSpec)

/-- ITS FALSE NEIGHBOUR: 'it returns false'. Refute it at one input. -/
def fnOwedAfterWrong : ChangeSpec := { name := "fnOwedAfter", fn := fun _ => fun
  | [d] => { results := [.lit (.bool false)], args := [d] }
  | _ => none }
def FnOwedAfterWrongFalsely : Prop := fnOwedAfterRow.holds Try.pinned (OpenSpec.ofChange fnOwedAfterWrong)

/-- 'laws.FnOwedAfterMore': WHATEVER THE INPUT: true; the input reads as it did. -/
def fnOwedAfterMoreSpec : ChangeSpec := { name := "fnOwedAfterMore", fn := fun _ => fun
  | [d] => { results := [.lit (.bool true)], args := [d] }
  | _ => none }
def fnOwedAfterMoreRow : OpenClaim := { program := "ythlgmdlnfkmnhaa", sum := "60f822574aa43f73588447d0e73a1fa8645f49365bdae42120df3245b49f0997", func := "loop.example/savingsclub/laws.FnOwedAfterMore", spec := "fnOwedAfterMore", apart := false }
def FnOwedAfterMoreSaid : Prop := fnOwedAfterMoreRow.holds Try.pinned (OpenSpec.ofChange fnOwedAfterMoreSpec)

/-- ITS FALSE NEIGHBOUR: 'it returns false'. Refute it at one input. -/
def fnOwedAfterMoreWrong : ChangeSpec := { name := "fnOwedAfterMore", fn := fun _ => fun
  | [d] => { results := [.lit (.bool false)], args := [d] }
  | _ => none }
def FnOwedAfterMoreWrongFalsely : Prop := fnOwedAfterMoreRow.holds Try.pinned (OpenSpec.ofChange fnOwedAfterMoreWrong)

/-- 'laws.FnLeaveWith': WHATEVER THE INPUT: true; the input reads as it did. -/
def fnLeaveWithSpec : ChangeSpec := { name := "fnLeaveWith", fn := fun _ => fun
  | [d] => { results := [.lit (.bool true)], args := [d] }
  | _ => none }
def fnLeaveWithRow : OpenClaim := { program := "ythlgmdlnfkmnhaa", sum := "60f822574aa43f73588447d0e73a1fa8645f49365bdae42120df3245b49f0997", func := "loop.example/savingsclub/laws.FnLeaveWith", spec := "fnLeaveWith", named := ["math/bits.divideError", "math/bits.overflowError"], apart := false }
def FnLeaveWithSaid : Prop := fnLeaveWithRow.holds Try.pinned (OpenSpec.ofChange fnLeaveWithSpec)

/-- ITS FALSE NEIGHBOUR: 'it returns false'. Refute it at one input. -/
def fnLeaveWithWrong : ChangeSpec := { name := "fnLeaveWith", fn := fun _ => fun
  | [d] => { results := [.lit (.bool false)], args := [d] }
  | _ => none }
def FnLeaveWithWrongFalsely : Prop := fnLeaveWithRow.holds Try.pinned (OpenSpec.ofChange fnLeaveWithWrong)

/-- 'laws.FnTallyOf': WHATEVER THE INPUT: true; the input reads as it did. -/
def fnTallyOfSpec : ChangeSpec := { name := "fnTallyOf", fn := fun _ => fun
  | [d] => { results := [.lit (.bool true)], args := [d] }
  | _ => none }
def fnTallyOfRow : OpenClaim := { program := "ythlgmdlnfkmnhaa", sum := "60f822574aa43f73588447d0e73a1fa8645f49365bdae42120df3245b49f0997", func := "loop.example/savingsclub/laws.FnTallyOf", spec := "fnTallyOf", apart := false }
def FnTallyOfSaid : Prop := fnTallyOfRow.holds Try.pinned (OpenSpec.ofChange fnTallyOfSpec)

/-- ITS FALSE NEIGHBOUR: 'it returns false'. Refute it at one input. -/
def fnTallyOfWrong : ChangeSpec := { name := "fnTallyOf", fn := fun _ => fun
  | [d] => { results := [.lit (.bool false)], args := [d] }
  | _ => none }
def FnTallyOfWrongFalsely : Prop := fnTallyOfRow.holds Try.pinned (OpenSpec.ofChange fnTallyOfWrong)

/-- 'laws.FnPrefer': WHATEVER THE INPUT: true; the input reads as it did. -/
def fnPreferSpec : ChangeSpec := { name := "fnPrefer", fn := fun _ => fun
  | [d] => { results := [.lit (.bool true)], args := [d] }
  | _ => none }
def fnPreferRow : OpenClaim := { program := "ythlgmdlnfkmnhaa", sum := "60f822574aa43f73588447d0e73a1fa8645f49365bdae42120df3245b49f0997", func := "loop.example/savingsclub/laws.FnPrefer", spec := "fnPrefer", apart := false }
def FnPreferSaid : Prop := fnPreferRow.holds Try.pinned (OpenSpec.ofChange fnPreferSpec)

/-- ITS FALSE NEIGHBOUR: 'it returns false'. Refute it at one input. -/
def fnPreferWrong : ChangeSpec := { name := "fnPrefer", fn := fun _ => fun
  | [d] => { results := [.lit (.bool false)], args := [d] }
  | _ => none }
def FnPreferWrongFalsely : Prop := fnPreferRow.holds Try.pinned (OpenSpec.ofChange fnPreferWrong)

/-- 'laws.FnCreditAfter': WHATEVER THE INPUT: true; the input reads as it did. -/
def fnCreditAfterSpec : ChangeSpec := { name := "fnCreditAfter", fn := fun _ => fun
  | [d] => { results := [.lit (.bool true)], args := [d] }
  | _ => none }
def fnCreditAfterRow : OpenClaim := { program := "ythlgmdlnfkmnhaa", sum := "60f822574aa43f73588447d0e73a1fa8645f49365bdae42120df3245b49f0997", func := "loop.example/savingsclub/laws.FnCreditAfter", spec := "fnCreditAfter", apart := false }
def FnCreditAfterSaid : Prop := fnCreditAfterRow.holds Try.pinned (OpenSpec.ofChange fnCreditAfterSpec)

/-- ITS FALSE NEIGHBOUR: 'it returns false'. Refute it at one input. -/
def fnCreditAfterWrong : ChangeSpec := { name := "fnCreditAfter", fn := fun _ => fun
  | [d] => { results := [.lit (.bool false)], args := [d] }
  | _ => none }
def FnCreditAfterWrongFalsely : Prop := fnCreditAfterRow.holds Try.pinned (OpenSpec.ofChange fnCreditAfterWrong)

/-- 'laws.FnNewClub': WHATEVER THE INPUT: true; the input reads as it did. -/
def fnNewClubSpec : ChangeSpec := { name := "fnNewClub", fn := fun _ => fun
  | [d] => { results := [.lit (.bool true)], args := [d] }
  | _ => none }
def fnNewClubRow : OpenClaim := { program := "ythlgmdlnfkmnhaa", sum := "60f822574aa43f73588447d0e73a1fa8645f49365bdae42120df3245b49f0997", func := "loop.example/savingsclub/laws.FnNewClub", spec := "fnNewClub", apart := false }
def FnNewClubSaid : Prop := fnNewClubRow.holds Try.pinned (OpenSpec.ofChange fnNewClubSpec)

/-- ITS FALSE NEIGHBOUR: 'it returns false'. Refute it at one input. -/
def fnNewClubWrong : ChangeSpec := { name := "fnNewClub", fn := fun _ => fun
  | [d] => { results := [.lit (.bool false)], args := [d] }
  | _ => none }
def FnNewClubWrongFalsely : Prop := fnNewClubRow.holds Try.pinned (OpenSpec.ofChange fnNewClubWrong)

/-- 'laws.FnInterestOf': WHATEVER THE INPUT: true; the input reads as it did. -/
def fnInterestOfSpec : ChangeSpec := { name := "fnInterestOf", fn := fun _ => fun
  | [d] => { results := [.lit (.bool true)], args := [d] }
  | _ => none }
def fnInterestOfRow : OpenClaim := { program := "ythlgmdlnfkmnhaa", sum := "60f822574aa43f73588447d0e73a1fa8645f49365bdae42120df3245b49f0997", func := "loop.example/savingsclub/laws.FnInterestOf", spec := "fnInterestOf", apart := false }
def FnInterestOfSaid : Prop := fnInterestOfRow.holds Try.pinned (OpenSpec.ofChange fnInterestOfSpec)

/-- ITS FALSE NEIGHBOUR: 'it returns false'. Refute it at one input. -/
def fnInterestOfWrong : ChangeSpec := { name := "fnInterestOf", fn := fun _ => fun
  | [d] => { results := [.lit (.bool false)], args := [d] }
  | _ => none }
def FnInterestOfWrongFalsely : Prop := fnInterestOfRow.holds Try.pinned (OpenSpec.ofChange fnInterestOfWrong)

/- THE SECOND FORM. 'bulk': how many values and letters a reading holds, each counted each time it is reached (what is shared counts as often as it is met; a slice's spare places count too). A statement '..UptoSaid' is the law's where the arguments, and the package variables that the reading takes, are together of bulk at most 1048576: NARROWER than '..Said'. Prove '..Said' where nothing that the law and all that it calls make is longer than what came in: it says more and counts as full. Else prove '..UptoSaid'. A law counts once. -/
mutual
def uptoBulk {H : Type} : DataW H → Nat
  | .lit (.string bytes) => bytes.length + 1
  | .lit _ => 1
  | .nil => 1
  | .ptr d => uptoBulk d + 1
  | .slice elems spare => uptoBulkAll elems + uptoBulkAll spare + 1
  | .agg parts => uptoBulkAll parts + 1
  | .iface _ d => uptoBulk d + 1
  | .map entries => uptoBulkEntries entries + 1
  | .held _ => 1
def uptoBulkAll {H : Type} : List (DataW H) → Nat
  | [] => 0
  | d :: r => uptoBulk d + uptoBulkAll r
def uptoBulkEntries {H : Type} : List (Lit × DataW H) → Nat
  | [] => 0
  | x :: r => uptoBulkEntry x + uptoBulkEntries r
def uptoBulkEntry {H : Type} : Lit × DataW H → Nat
  | (.string bytes, d) => bytes.length + uptoBulk d + 1
  | (_, d) => uptoBulk d + 1
 end
def uptoSmall : (H : Type) → List (DataW H) → Bool := fun _ ds => decide (uptoBulkAll ds ≤ 1048576)
def OpenSpec.upto (s : _root_.Go.ChangeSpec) : _root_.Go.OpenSpec := { _root_.Go.OpenSpec.ofChange s with cond := some uptoSmall }

/-- 'laws.FnSwapTurns', WHERE WHAT IT READS IS OF BULK AT MOST 1048576: true; the input reads as it did. -/
def fnSwapTurnsUptoRow : OpenClaim := { program := "ythlgmdlnfkmnhaa", sum := "60f822574aa43f73588447d0e73a1fa8645f49365bdae42120df3245b49f0997", func := "loop.example/savingsclub/laws.FnSwapTurns", spec := "fnSwapTurns", apart := false, narrowed := true }
def FnSwapTurnsUptoSaid : Prop := fnSwapTurnsUptoRow.holds Try.pinned (OpenSpec.upto fnSwapTurnsSpec)

/-- 'laws.FnExactShortClass', WHERE WHAT IT READS IS OF BULK AT MOST 1048576: true; the input reads as it did. -/
def fnExactShortClassUptoRow : OpenClaim := { program := "ythlgmdlnfkmnhaa", sum := "60f822574aa43f73588447d0e73a1fa8645f49365bdae42120df3245b49f0997", func := "loop.example/savingsclub/laws.FnExactShortClass", spec := "fnExactShortClass", apart := false, narrowed := true }
def FnExactShortClassUptoSaid : Prop := fnExactShortClassUptoRow.holds Try.pinned (OpenSpec.upto fnExactShortClassSpec)

/-- 'laws.FnExactPasses', WHERE WHAT IT READS IS OF BULK AT MOST 1048576: true; the input reads as it did. -/
def fnExactPassesUptoRow : OpenClaim := { program := "ythlgmdlnfkmnhaa", sum := "60f822574aa43f73588447d0e73a1fa8645f49365bdae42120df3245b49f0997", func := "loop.example/savingsclub/laws.FnExactPasses", spec := "fnExactPasses", apart := false, narrowed := true }
def FnExactPassesUptoSaid : Prop := fnExactPassesUptoRow.holds Try.pinned (OpenSpec.upto fnExactPassesSpec)

/-- 'laws.FnExactDualBody', WHERE WHAT IT READS IS OF BULK AT MOST 1048576: true; the input reads as it did. -/
def fnExactDualBodyUptoRow : OpenClaim := { program := "ythlgmdlnfkmnhaa", sum := "60f822574aa43f73588447d0e73a1fa8645f49365bdae42120df3245b49f0997", func := "loop.example/savingsclub/laws.FnExactDualBody", spec := "fnExactDualBody", apart := false, narrowed := true }
def FnExactDualBodyUptoSaid : Prop := fnExactDualBodyUptoRow.holds Try.pinned (OpenSpec.upto fnExactDualBodySpec)

/-- 'laws.FnOwedAfter', WHERE WHAT IT READS IS OF BULK AT MOST 1048576: true; the input reads as it did. -/
def fnOwedAfterUptoRow : OpenClaim := { program := "ythlgmdlnfkmnhaa", sum := "60f822574aa43f73588447d0e73a1fa8645f49365bdae42120df3245b49f0997", func := "loop.example/savingsclub/laws.FnOwedAfter", spec := "fnOwedAfter", apart := false, narrowed := true }
def FnOwedAfterUptoSaid : Prop := fnOwedAfterUptoRow.holds Try.pinned (OpenSpec.upto fnOwedAfterSpec)

/-- 'laws.FnOwedAfterMore', WHERE WHAT IT READS IS OF BULK AT MOST 1048576: true; the input reads as it did. -/
def fnOwedAfterMoreUptoRow : OpenClaim := { program := "ythlgmdlnfkmnhaa", sum := "60f822574aa43f73588447d0e73a1fa8645f49365bdae42120df3245b49f0997", func := "loop.example/savingsclub/laws.FnOwedAfterMore", spec := "fnOwedAfterMore", apart := false, narrowed := true }
def FnOwedAfterMoreUptoSaid : Prop := fnOwedAfterMoreUptoRow.holds Try.pinned (OpenSpec.upto fnOwedAfterMoreSpec)

/-- 'laws.FnLeaveWith', WHERE WHAT IT READS IS OF BULK AT MOST 1048576: true; the input reads as it did. -/
def fnLeaveWithUptoRow : OpenClaim := { program := "ythlgmdlnfkmnhaa", sum := "60f822574aa43f73588447d0e73a1fa8645f49365bdae42120df3245b49f0997", func := "loop.example/savingsclub/laws.FnLeaveWith", spec := "fnLeaveWith", named := ["math/bits.divideError", "math/bits.overflowError"], apart := false, narrowed := true }
def FnLeaveWithUptoSaid : Prop := fnLeaveWithUptoRow.holds Try.pinned (OpenSpec.upto fnLeaveWithSpec)

/-- 'laws.FnTallyOf', WHERE WHAT IT READS IS OF BULK AT MOST 1048576: true; the input reads as it did. -/
def fnTallyOfUptoRow : OpenClaim := { program := "ythlgmdlnfkmnhaa", sum := "60f822574aa43f73588447d0e73a1fa8645f49365bdae42120df3245b49f0997", func := "loop.example/savingsclub/laws.FnTallyOf", spec := "fnTallyOf", apart := false, narrowed := true }
def FnTallyOfUptoSaid : Prop := fnTallyOfUptoRow.holds Try.pinned (OpenSpec.upto fnTallyOfSpec)

/-- 'laws.FnPrefer', WHERE WHAT IT READS IS OF BULK AT MOST 1048576: true; the input reads as it did. -/
def fnPreferUptoRow : OpenClaim := { program := "ythlgmdlnfkmnhaa", sum := "60f822574aa43f73588447d0e73a1fa8645f49365bdae42120df3245b49f0997", func := "loop.example/savingsclub/laws.FnPrefer", spec := "fnPrefer", apart := false, narrowed := true }
def FnPreferUptoSaid : Prop := fnPreferUptoRow.holds Try.pinned (OpenSpec.upto fnPreferSpec)

/-- 'laws.FnCreditAfter', WHERE WHAT IT READS IS OF BULK AT MOST 1048576: true; the input reads as it did. -/
def fnCreditAfterUptoRow : OpenClaim := { program := "ythlgmdlnfkmnhaa", sum := "60f822574aa43f73588447d0e73a1fa8645f49365bdae42120df3245b49f0997", func := "loop.example/savingsclub/laws.FnCreditAfter", spec := "fnCreditAfter", apart := false, narrowed := true }
def FnCreditAfterUptoSaid : Prop := fnCreditAfterUptoRow.holds Try.pinned (OpenSpec.upto fnCreditAfterSpec)

/-- 'laws.FnNewClub', WHERE WHAT IT READS IS OF BULK AT MOST 1048576: true; the input reads as it did. -/
def fnNewClubUptoRow : OpenClaim := { program := "ythlgmdlnfkmnhaa", sum := "60f822574aa43f73588447d0e73a1fa8645f49365bdae42120df3245b49f0997", func := "loop.example/savingsclub/laws.FnNewClub", spec := "fnNewClub", apart := false, narrowed := true }
def FnNewClubUptoSaid : Prop := fnNewClubUptoRow.holds Try.pinned (OpenSpec.upto fnNewClubSpec)

/-- 'laws.FnInterestOf', WHERE WHAT IT READS IS OF BULK AT MOST 1048576: true; the input reads as it did. -/
def fnInterestOfUptoRow : OpenClaim := { program := "ythlgmdlnfkmnhaa", sum := "60f822574aa43f73588447d0e73a1fa8645f49365bdae42120df3245b49f0997", func := "loop.example/savingsclub/laws.FnInterestOf", spec := "fnInterestOf", apart := false, narrowed := true }
def FnInterestOfUptoSaid : Prop := fnInterestOfUptoRow.holds Try.pinned (OpenSpec.upto fnInterestOfSpec)

end Rows
end Go.Proofs.Ythlgmdlnfkmnhaa
